import Derived.Test.YtdmiblfckigjoaaDoorU05t
set_option linter.unusedVariables false
set_option linter.unusedSimpArgs false
set_option maxRecDepth 10000
namespace Go.Proofs
open Go X RowKit
/-! ### which entries may be -/
structure EvIn (e : Ev) : Prop where
  kd : 0 ≤ e.kd ∧ e.kd < 256
  id : e.id.In
  fl : 0 ≤ e.fl ∧ e.fl < 4294967296
  ps : ∀ p ∈ e.ps, PtIn p
  rc : 0 ≤ e.rc ∧ e.rc < 256
  rv : e.rv.size ≤ 281474976710656
  vn : 0 ≤ e.vn ∧ e.vn < 256
  vl : 0 ≤ e.vl ∧ e.vl < 65536
def Ev.ask (x : Ev) (g : Int) : Bool := x.id.right && rightL x.ps && (match x.ps with | [] => false | p :: _ => p.g == g) && decide (x.id.d + x.ps.length ≤ 4) && decide (x.fl < x.id.s) && ((x.vn == 0) && (x.vl == 0))
def wOk (p : Pt) (w : Wr) : Bool := ((w.key.toList == p.key.toList) && decide (((w.val.size : Nat) : Int) ≤ 64)) && (w.has || decide (w.val.size = 0))
def Ev.wrote (x : Ev) : Bool := match x.ps with
  | [] => false
  | p :: _ => if x.rc ≠ 0 ∨ p.k = 0 then decide (x.ws.length = 0) else match x.ws with
    | [w] => wOk p w
    | _ => false
def Ev.resR (x : Ev) : Bool := Rs.right ⟨x.rc, x.rv⟩
def Ev.res0 (x : Ev) : Bool := (x.rc == 0) && (x.rv == ByteArray.mk #[])
def Ev.bare (x : Ev) : Bool := (x.fl == 0) && decide (x.ps.length = 0) && decide (x.ws.length = 0)
def Ev.at_ (x : Ev) : Int := if x.id.d = 1 then x.id.g0 else if x.id.d = 2 then x.id.g1 else x.id.g2
def Ev.right (x : Ev) (g : Int) : Bool :=
  if x.kd = 0 then x.ask g && x.res0 && decide (x.ws.length = 0)
  else if x.kd = 3 then x.ask g && x.resR && !(x.rc == 4) && !(x.rc == 3) && x.wrote
  else if x.kd = 1 then x.id.right && decide (x.id.d > 0) && (x.at_ == g) && x.resR && x.bare && ((x.vn == 0) && (x.vl == 0))
  else if x.kd = 2 then rightP x.vn x.vl && x.res0 && decide (x.id = I.zero) && x.bare
  else false
theorem i_zero_eq (d : I) : (((d.n == 0) && (d.l == 0)) && ((d.s == 0) && ((d.d == 0) && (((d.g0 == 0) && (d.i0 == 0)) && (((d.g1 == 0) && (d.i1 == 0)) && ((d.g2 == 0) && (d.i2 == 0))))))) = decide (d = I.zero) := i_eqd d I.zero
theorem right_d {x : I} (hx : x.In) (h : x.right = true) : 0 ≤ x.d ∧ x.d ≤ 3 := by
  simp only [I.right, Bool.and_eq_true, decide_eq_true_eq] at h
  exact ⟨hx.d.1, h.1.1.1.2⟩
theorem len0 (k : Nat) : (((k : Nat) : Int) == 0) = decide (k = 0) := by
  rw [Bool.eq_iff_iff]; simp
theorem c_asked (e : En) (g : Int) (hi : EvIn e.er) : Ctr Tryd.prog 26 #[.agg e.row.toArray, .int .u8 g] (fun m => EnM m e) [] (fun _ : Unit => .bool (e.er.ask g)) (fun _ _ => True) (fun _ => []) := by
  refine Ctr.mk fun w F m C he => x_asked _ _ _ _ _ _ _ _ _ _ _ _ _ _ _ _ _ _ _ _ _ _ _ w _ fun w1 L2 h1 g1 => ?_
  refine (C.hidL h1 g1).gives (c_Right e.id hi.id) fun w4 k4 C => ⟨_, rfl, k4, ?_⟩
  by_cases hr : e.id.right = true
  rotate_left
  · rw [if_neg (by simpa using hr)]
    refine Ctr.ret () ?_ trivial C
    have : e.er.ask g = false := by
      have hr' : e.er.id.right = false := Bool.eq_false_iff.2 hr
      simp [Ev.ask, hr']
    rw [this]; rfl
  rw [if_pos (by rw [hr]; rfl)]
  refine (c_partRight e.pq e.ps (by have := he.pl; omega)).call (As := []) C he.p fun _ m2 w7 hk hm2 _ C => ⟨_, rfl, hk, ?_⟩
  by_cases hl : rightL e.ps = true
  rotate_left
  · rw [if_neg (by simpa using hl)]
    refine Ctr.ret () ?_ trivial C
    have : e.er.ask g = false := by
      have hr' : rightL e.er.ps = false := Bool.eq_false_iff.2 hl
      simp [Ev.ask, hr']
    rw [this]; rfl
  rw [if_pos (by rw [hl]; rfl)]
  have hl0 : 1 ≤ e.ps.length ∧ e.ps.length ≤ 4 := by
    simp only [rightL, Bool.and_eq_true, decide_eq_true_eq] at hl; exact hl.1
  obtain ⟨a, ha, hc⟩ := (he.p.mono hm2).elem pt_len (i := 0) (by omega)
  have ha : e.pq.1 = some a := ha
  have hd : 0 ≤ e.id.d ∧ e.id.d ≤ 3 := right_d hi.id hr
  refine ⟨by omega, by omega, ?_⟩
  rw [ha, onSome_some]
  refine ⟨_, C.cells hc 0 _ rfl, C.cellsL hc, ?_⟩
  rw [w_i64 (n := e.id.d) (by omega) (by omega), w_i64 (n := e.id.d + _) (by omega) (by omega)]
  refine Ctr.ret () ?_ trivial C
  obtain ⟨p, l, hpl⟩ : ∃ p l, e.ps = p :: l := by
    cases hps : e.ps with
    | nil => rw [hps] at hl0; simp at hl0
    | cons p l => exact ⟨p, l, rfl⟩
  have e0 : e.er.ask g = (((true && (p.g == g)) && decide (e.id.d + ((e.ps.length : Nat) : Int) ≤ 4)) && decide (e.fl < e.id.s) && ((e.vn == 0) && (e.vl == 0))) := by
    have h1 : e.er.id.right = true := hr
    have h2 : rightL e.er.ps = true := hl
    have h3 : e.er.ps = p :: l := hpl
    rw [Ev.ask, h1, h2, h3, hpl]; rfl
  rw [e0]
  have e1 : e.ps[0].g = p.g := by simp [hpl]
  simp only [e1]
theorem c_rcall (e : En) (g : Int) (hi : EvIn e.er) : Ctr Tryd.prog 32 #[.agg e.row.toArray, .int .u8 g] (fun m => EnM m e) [] (fun _ : Unit => .bool (e.er.ask g)) (fun _ _ => True) (fun _ => []) := by
  refine Ctr.mk fun w F m C he => x_rcall _ _ _ _ _ _ _ _ _ _ _ _ _ _ _ _ _ _ _ _ _ _ _ w _ fun w1 L2 h1 g1 => ?_
  refine (C.hidL h1 g1).gives (c_ref_Right e.id hi.id) fun w4 k4 C => ⟨_, rfl, k4, ?_⟩
  by_cases hr : e.id.right = true
  rotate_left
  · rw [if_neg (by simpa using hr)]
    refine Ctr.ret () ?_ trivial C
    have : e.er.ask g = false := by
      have hr' : e.er.id.right = false := Bool.eq_false_iff.2 hr
      simp [Ev.ask, hr']
    rw [this]; rfl
  rw [if_pos (by rw [hr]; rfl)]
  refine (c_r3RightAll e.pq e.ps (by have := he.pl; omega) (fun p h => (hi.ps p h).k.1)).call (As := []) C he.p fun _ m2 w7 hk hm2 _ C => ⟨_, rfl, hk, ?_⟩
  by_cases hl : rightL e.ps = true
  rotate_left
  · rw [if_neg (by simpa using hl)]
    refine Ctr.ret () ?_ trivial C
    have : e.er.ask g = false := by
      have hr' : rightL e.er.ps = false := Bool.eq_false_iff.2 hl
      simp [Ev.ask, hr']
    rw [this]; rfl
  rw [if_pos (by rw [hl]; rfl)]
  have hl0 : 1 ≤ e.ps.length ∧ e.ps.length ≤ 4 := by
    simp only [rightL, Bool.and_eq_true, decide_eq_true_eq] at hl; exact hl.1
  obtain ⟨a, ha, hc⟩ := (he.p.mono hm2).elem pt_len (i := 0) (by omega)
  have ha : e.pq.1 = some a := ha
  have hd : 0 ≤ e.id.d ∧ e.id.d ≤ 3 := right_d hi.id hr
  refine ⟨by omega, by omega, ?_⟩
  rw [ha, onSome_some]
  refine ⟨_, C.cells hc 0 _ rfl, C.cellsL hc, ?_⟩
  rw [w_i64 (n := e.id.d) (by omega) (by omega), w_i64 (n := e.id.d + _) (by omega) (by omega)]
  refine Ctr.ret () ?_ trivial C
  obtain ⟨p, l, hpl⟩ : ∃ p l, e.ps = p :: l := by
    cases hps : e.ps with
    | nil => rw [hps] at hl0; simp at hl0
    | cons p l => exact ⟨p, l, rfl⟩
  have e0 : e.er.ask g = (((true && (p.g == g)) && decide (e.id.d + ((e.ps.length : Nat) : Int) ≤ 4)) && decide (e.fl < e.id.s) && ((e.vn == 0) && (e.vl == 0))) := by
    have h1 : e.er.id.right = true := hr
    have h2 : rightL e.er.ps = true := hl
    have h3 : e.er.ps = p :: l := hpl
    rw [Ev.ask, h1, h2, h3, hpl]; rfl
  rw [e0]
  have e1 : e.ps[0].g = p.g := by simp [hpl]
  simp only [e1]
theorem ask_ne {x : Ev} {g : Int} (h : x.ask g = true) : ∃ p l, x.ps = p :: l := by
  cases hps : x.ps with
  | nil => rw [Ev.ask, hps] at h; simp at h
  | cons p l => exact ⟨p, l, rfl⟩
theorem c_wrote (e : En) (p : Pt) (l : List Pt) (hp : e.ps = p :: l) : Ctr Tryd.prog 28 #[.agg e.row.toArray] (fun m => EnM m e) [] (fun _ : Unit => .bool e.er.wrote) (fun _ _ => True) (fun _ => []) := by
  refine Ctr.mk fun w F m C he => x_wrote _ _ _ _ _ _ _ _ _ _ _ _ _ _ _ _ _ _ _ _ _ _ w _ ?_
  have hp' : e.er.ps = p :: l := hp
  have hl0 : 0 < e.ps.length := by rw [hp]; simp
  obtain ⟨a, ha, hc⟩ := he.p.elem pt_len (i := 0) hl0
  have ha : e.pq.1 = some a := ha
  have e1 : e.ps[0] = p := by simp [hp]
  rw [e1] at hc
  refine ⟨by omega, by omega, ?_⟩
  rw [ha, onSome_some]
  refine ⟨_, _, _, _, _, C.cells hc, ?_⟩
  by_cases h1 : e.rc ≠ 0 ∨ p.k = 0
  · rw [if_pos (by simpa using h1)]
    intro w13 h13
    refine Ctr.ret () ?_ trivial (C.hid0 h13)
    rw [len0, Ev.wrote, hp']
    show _ = Ending.returned (.bool (if e.rc ≠ 0 ∨ p.k = 0 then _ else _))
    rw [if_pos h1]; rfl
  rw [if_neg (by simpa using h1)]
  have ew : e.er.wrote = (match e.ws with | [w] => wOk p w | _ => false) := by
    rw [Ev.wrote, hp']
    show (if e.rc ≠ 0 ∨ p.k = 0 then _ else _) = _
    rw [if_neg h1]; rfl
  by_cases h2 : e.ws.length = 1
  rotate_left
  · rw [if_pos (by simp; omega)]
    intro w13 h13
    refine Ctr.ret () ?_ trivial (C.hid0 h13)
    rw [ew]
    rcases hws : e.ws with _ | ⟨x, _ | ⟨y, t⟩⟩
    · rfl
    · rw [hws] at h2; simp at h2
    · rfl
  rw [if_neg (by simp [h2])]
  obtain ⟨x, hx⟩ : ∃ x, e.ws = [x] := List.length_eq_one_iff.1 h2
  obtain ⟨b, hb, hc2⟩ := he.w.elem wr_len (i := 0) (by omega)
  have hb : e.wq.1 = some b := hb
  have e2 : e.ws[0] = x := by simp [hx]
  rw [e2] at hc2
  refine ⟨by omega, by omega, ?_⟩
  rw [hb, onSome_some]
  refine ⟨_, _, _, C.cells hc2, fun w11 h11 => Ctr.ret () ?_ trivial (C.hid0 h11)⟩
  rw [ew, hx, emp_eq]; rfl
def Ev.chk (x : Ev) : Bool := x.resR && !(x.rc == 4) && !(x.rc == 3) && x.wrote
theorem c_rcheck (e : En) (p : Pt) (l : List Pt) (hp : e.ps = p :: l) : Ctr Tryd.prog 33 #[.agg e.row.toArray] (fun m => EnM m e) [] (fun _ : Unit => .bool e.er.chk) (fun _ _ => True) (fun _ => []) := by
  refine Ctr.mk fun w F m C he => x_rcheck _ _ _ _ _ _ _ _ _ _ _ _ _ _ _ _ _ _ _ _ _ _ w _ ?_
  have hp' : e.er.ps = p :: l := hp
  have hl0 : 0 < e.ps.length := by rw [hp]; simp
  obtain ⟨a, ha, hc⟩ := he.p.elem pt_len (i := 0) hl0
  have ha : e.pq.1 = some a := ha
  have e1 : e.ps[0] = p := by simp [hp]
  rw [e1] at hc
  refine ⟨by omega, by omega, ?_⟩
  rw [ha, onSome_some]
  refine ⟨_, _, _, _, _, C.cells hc, fun w7 L8 h7 g7 => ?_⟩
  refine (C.hidL h7 g7).gives (c_rRightRes ⟨e.rc, e.rv⟩) fun w10 k10 C => ⟨_, rfl, k10, ?_⟩
  have er : Rs.right ⟨e.rc, e.rv⟩ = e.er.resR := rfl
  rw [er]
  by_cases hbad : (((((!e.er.resR) || (e.rc == 4)) || (e.rc == 3)) || decide (((e.ws.length : Nat) : Int) > 1)) || (!((((e.ws.length : Nat) : Int) == 1) == ((e.rc == 0) && (p.k != 0))))) = true
  · rw [if_pos hbad]
    refine Ctr.ret () ?_ trivial C
    have : e.er.chk = false := by
      rw [Bool.eq_false_iff]; intro hh
      simp only [Ev.chk, Bool.and_eq_true, Bool.not_eq_true', beq_eq_false_iff_ne] at hh
      obtain ⟨⟨⟨h1, h2⟩, h3⟩, h4⟩ := hh
      have h2 : e.rc ≠ 4 := h2
      have h3 : e.rc ≠ 3 := h3
      rw [h1] at hbad
      rw [Ev.wrote, hp'] at h4
      replace h4 : (if e.rc ≠ 0 ∨ p.k = 0 then decide (e.ws.length = 0) else match e.ws with | [w] => wOk p w | _ => false) = true := h4
      simp only [Bool.or_eq_true, beq_iff_eq, h2, h3, decide_eq_true_eq, Bool.not_eq_true', false_or, Bool.not_true, Bool.false_eq_true] at hbad
      by_cases hk : e.rc ≠ 0 ∨ p.k = 0
      · rw [if_pos hk] at h4
        have hw : e.ws.length = 0 := by simpa using h4
        rw [hw] at hbad
        rcases hbad with hb | hb
        · omega
        · rcases hk with hk | hk <;> simp [hk] at hb
      · rw [if_neg hk] at h4
        simp only [not_or, Decidable.not_not] at hk
        rcases hws : e.ws with _ | ⟨x, _ | ⟨y, t⟩⟩
        · rw [hws] at h4; simp at h4
        · rw [hws] at hbad
          simp [hk.1, hk.2] at hbad
        · rw [hws] at h4; simp at h4
    rw [this]
  rw [if_neg hbad]
  simp only [Bool.or_eq_true, decide_eq_true_eq, not_or, Bool.not_eq_true', Bool.not_eq_false, Bool.not_eq_true, beq_eq_false_iff_ne] at hbad
  obtain ⟨⟨⟨⟨b1, b2⟩, b3⟩, b4⟩, b5⟩ := hbad
  have hw2 : e.er.chk = e.er.wrote := by
    have b2 : e.er.rc ≠ 4 := b2
    have b3 : e.er.rc ≠ 3 := b3
    simp [Ev.chk, b1, b2, b3]
  have hw3 : e.er.wrote = e.ws.all (wOk p) := by
    rw [Ev.wrote, hp']
    show (if e.rc ≠ 0 ∨ p.k = 0 then decide (e.ws.length = 0) else match e.ws with | [w] => wOk p w | _ => false) = _
    rcases hws : e.ws with _ | ⟨x, _ | ⟨y, t⟩⟩
    · rw [hws] at b5
      by_cases hk : e.rc ≠ 0 ∨ p.k = 0
      · rw [if_pos hk]; rfl
      · exfalso
        simp only [not_or, Decidable.not_not] at hk
        simp [hk.1, hk.2] at b5
    · rw [hws] at b5
      by_cases hk : e.rc ≠ 0 ∨ p.k = 0
      · exfalso
        rcases hk with hk | hk <;> simp [hk] at b5
      · rw [if_neg hk]; simp
    · exfalso; apply b4; rw [hws]; simp; omega
  rw [hw2, hw3]
  refine ⟨fun i w' L' => ∃ j : Nat, i = j ∧ j ≤ e.ws.length ∧ (e.ws.take j).all (wOk p) = true ∧ Ctx F m w w' L' m [], fun i _ => (e.ws.length - i).toNat, ⟨0, rfl, by omega, rfl, C⟩, ?_⟩
  clear C
  rintro i w15 L16 _ ⟨j, rfl, hj, hjt, D⟩
  by_cases hjl : j < e.ws.length
  · rw [if_pos (by simpa using hjl)]
    obtain ⟨b, hb, hc2⟩ := he.w.elem wr_len hjl
    have hb : e.wq.1 = some b := hb
    refine ⟨by omega, by simpa using hjl, ?_⟩
    rw [hb, onSome_some]
    have hnl := D.cellsL hc2
    refine ⟨_, _, _, by rw [Int.toNat_natCast]; exact D.cells hc2, by simpa using hnl, ?_⟩
    rw [emp_eq]
    by_cases hok : wOk p e.ws[j] = true
    · rw [if_neg (by
        intro hh
        simp only [wOk, Bool.and_eq_true, Bool.or_eq_true, decide_eq_true_eq, beq_iff_eq] at hok
        obtain ⟨⟨o1, o2⟩, o3⟩ := hok
        simp only [Bool.or_eq_true, Bool.and_eq_true, Bool.not_eq_true', beq_eq_false_iff_ne, decide_eq_true_eq, decide_eq_false_iff_not, o1, ne_eq, not_true_eq_false, false_or] at hh
        rcases hh with hh | ⟨hh1, hh2⟩
        · omega
        · rcases o3 with o3 | o3
          · rw [o3] at hh1; cases hh1
          · exact hh2 o3)]
      intro w21 L22 h21 g21
      have e3 : IntKind.wrap .i64 ((j : Int) + 1) = ((j + 1 : Nat) : Int) := by have := he.wl; rw [w_i64 (by omega) (by omega)]; omega
      rw [e3]
      refine ⟨rfl, rfl, ⟨j + 1, rfl, hjl, ?_, D.hidL h21 g21⟩, Nat.le_of_eq (by show ((e.ws.length : Int) - ((j + 1 : Nat) : Int)).toNat + 1 = ((e.ws.length : Int) - (j : Int)).toNat; omega)⟩
      rw [List.take_succ_eq_append_getElem hjl, List.all_append, hjt]; simp [hok]
    · rw [if_pos (by
        by_cases o1 : e.ws[j].key.toList = p.key.toList
        · by_cases o2 : ((e.ws[j].val.size : Nat) : Int) ≤ 64
          · by_cases o3 : e.ws[j].has = true
            · exact absurd (by simp [wOk, o1, o3]; omega) hok
            · by_cases o4 : e.ws[j].val.size = 0
              · exact absurd (by simp [wOk, o1, o4]) hok
              · simp [o3, o4]
          · have : ((e.ws[j].val.size : Nat) : Int) > 64 := by omega
            simp [this]
        · simp [o1])]
      intro w23 h23
      refine Ctr.ret () ?_ trivial (D.hid0 h23)
      have : e.ws.all (wOk p) = false := by rw [Bool.eq_false_iff]; intro h; exact hok (List.all_eq_true.1 h _ (List.getElem_mem hjl))
      rw [this]
  · rw [if_neg (by simpa using hjl)]
    have hj2 : j = e.ws.length := by omega
    rw [hj2, List.take_length] at hjt
    exact Ctr.ret () (by rw [hjt]) trivial D.noL
end Go.Proofs
