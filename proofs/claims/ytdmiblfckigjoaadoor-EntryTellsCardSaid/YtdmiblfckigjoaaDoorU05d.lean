import Derived.Test.YtdmiblfckigjoaaDoorU05c
set_option linter.unusedVariables false
set_option linter.unusedSimpArgs false
set_option maxRecDepth 10000
namespace Go.Proofs
open Go X RowKit
theorem c_bare (e : En) : Gives Tryd.prog 30 #[.agg e.row.toArray] (.bool e.er.bare) := by
  intro w
  refine x_bare _ _ _ _ _ _ _ _ _ _ _ _ _ _ _ _ _ _ _ _ _ _ w _ fun w1 h1 => ⟨?_, hid_below h1 (by simp) (Nat.le_refl _)⟩
  rw [len0, len0]; rfl
theorem ev_right0 {x : Ev} {g : Int} (h : x.kd = 0) : x.right g = (x.ask g && x.res0 && decide (x.ws.length = 0)) := by rw [Ev.right, if_pos h]
theorem ev_right3 {x : Ev} {g : Int} (h : x.kd = 3) : x.right g = (x.ask g && x.chk) := by
  rw [Ev.right, if_neg (by omega), if_pos h, Ev.chk]
  simp only [Bool.and_assoc]
theorem ev_right1 {x : Ev} {g : Int} (h : x.kd = 1) : x.right g = (x.id.right && decide (x.id.d > 0) && (x.at_ == g) && x.resR && x.bare && ((x.vn == 0) && (x.vl == 0))) := by rw [Ev.right, if_neg (by omega), if_neg (by omega), if_pos h]
theorem ev_right2 {x : Ev} {g : Int} (h : x.kd = 2) : x.right g = (rightP x.vn x.vl && x.res0 && decide (x.id = I.zero) && x.bare) := by rw [Ev.right, if_neg (by omega), if_neg (by omega), if_neg (by omega), if_pos h]
theorem bare_add (e : En) : e.er.bare = ((e.fl == 0) && (((e.ps.length : Nat) : Int) + ((e.ws.length : Nat) : Int) == 0)) := by
  show ((e.fl == 0) && decide (e.ps.length = 0) && decide (e.ws.length = 0)) = _
  rw [Bool.eq_iff_iff]; simp only [Bool.and_eq_true, beq_iff_eq, decide_eq_true_eq]; omega
theorem c_eRight (e : En) (g : Int) (hi : EvIn e.er) : Ctr Tryd.prog 9 #[.agg e.row.toArray, .int .u8 g] (fun m => EnM m e) [] (fun _ : Unit => .bool (e.er.right g)) (fun _ _ => True) (fun _ => []) := by
  refine Ctr.mk fun w F m C he => x_eRight _ _ _ _ _ _ _ _ _ _ _ _ _ _ _ _ _ _ _ _ _ _ _ w _ ?_
  have hpl := he.pl
  have hwl := he.wl
  by_cases h0 : e.kd = 0
  · rw [if_pos (by simpa using h0)]
    intro w44 L45 h44 g44
    refine (c_asked e g hi).call (As := []) (C.hidL h44 g44) he fun _ m2 w47 hk hm _ C => ⟨_, rfl, hk, Ctr.ret () ?_ trivial C⟩
    rw [ev_right0 (x := e.er) h0, len0]; rfl
  rw [if_neg (by simpa using h0)]
  by_cases h3 : e.kd = 3
  · rw [if_pos (by simpa using h3)]
    intro w33 L34 h33 g33
    refine (c_asked e g hi).call (As := []) (C.hidL h33 g33) he fun _ m2 w36 hk hm _ C => ⟨_, rfl, hk, ?_⟩
    by_cases ha : e.er.ask g = true
    rotate_left
    · rw [if_neg (by intro h; apply ha; simpa using h)]
      refine Ctr.ret () ?_ trivial C
      rw [ev_right3 (x := e.er) h3, Bool.eq_false_iff.2 ha]; rfl
    rw [if_pos (by rw [ha]; rfl)]
    obtain ⟨p, l, hpl'⟩ := ask_ne ha
    have hps : e.ps = p :: l := hpl'
    refine C.gives (c_ResRight ⟨e.rc, e.rv⟩) fun w39 k39 C => ⟨_, rfl, k39, ?_⟩
    have er : Rs.right ⟨e.rc, e.rv⟩ = e.er.resR := rfl
    rw [er]
    by_cases hc : (e.er.resR && !(e.rc == 4) && !(e.rc == 3)) = true
    rotate_left
    · rw [if_neg (by intro h; apply hc; simpa [bne] using h)]
      refine Ctr.ret () ?_ trivial C
      have hc' : (e.er.resR && !(e.er.rc == 4) && !(e.er.rc == 3)) = false := Bool.eq_false_iff.2 hc
      rw [ev_right3 (x := e.er) h3, Ev.chk, hc']; simp
    rw [if_pos (by simpa [bne] using hc)]
    refine (c_wrote e p l hps).call (As := []) C (he.mono hm) fun _ m3 w42 hk hm3 _ C => ⟨_, rfl, hk, Ctr.ret () ?_ trivial C⟩
    have hc' : (e.er.resR && !(e.er.rc == 4) && !(e.er.rc == 3)) = true := hc
    rw [ev_right3 (x := e.er) h3, ha, Ev.chk, hc']; rfl
  rw [if_neg (by simpa using h3)]
  by_cases h1 : e.kd = 1
  · rw [if_pos (by simpa using h1)]
    intro w10 L11 h10 g10
    refine (C.hidL h10 g10).gives (c_Right e.id hi.id) fun w13 k13 C => ⟨_, rfl, k13, ?_⟩
    by_cases hd : (e.id.right && decide (e.id.d > 0)) = true
    rotate_left
    · rw [if_neg (by intro h; apply hd; simpa using h)]
      refine Ctr.ret () ?_ trivial C
      have hd' : (e.er.id.right && decide (e.er.id.d > 0)) = false := Bool.eq_false_iff.2 hd
      rw [ev_right1 (x := e.er) h1, hd']; simp
    rw [if_pos (by rw [hd]; rfl)]
    have hdd : 0 < e.id.d ∧ e.id.d ≤ 3 := by
      simp only [Bool.and_eq_true, decide_eq_true_eq] at hd
      exact ⟨hd.2, (right_d hi.id hd.1).2⟩
    rw [w_u8 (n := e.id.d - 1) (by omega) (by omega)]
    refine ⟨by omega, by omega, ⟨fun hj => ?_, fun hj => ?_⟩, fun hj => ?_⟩
    · have hat : e.er.at_ = e.id.g0 := by
        show (if e.id.d = 1 then e.id.g0 else if e.id.d = 2 then e.id.g1 else e.id.g2) = _
        rw [if_pos (by omega)]
      by_cases hg : e.id.g0 = g
      rotate_left
      · rw [if_neg (by simpa using hg)]
        refine Ctr.ret () ?_ trivial C
        have : (e.er.at_ == g) = false := by rw [hat]; simpa using hg
        rw [ev_right1 (x := e.er) h1, this]; simp
      rw [if_pos (by simpa using hg)]
      have hgt : (e.er.at_ == g) = true := by rw [hat]; simpa using hg
      refine C.gives (c_ResRight ⟨e.rc, e.rv⟩) fun w16 k16 C => ⟨_, rfl, k16, ?_⟩
      by_cases hrr : e.er.resR = true
      rotate_left
      · rw [if_neg (by intro h; apply hrr; simp at h; exact h)]
        refine Ctr.ret () ?_ trivial C
        rw [ev_right1 (x := e.er) h1, Bool.eq_false_iff.2 hrr]; simp
      rw [if_pos (by have : Rs.right ⟨e.rc, e.rv⟩ = true := hrr; rw [this]; rfl)]
      refine C.gives (c_bare e) fun w19 k19 C => ⟨_, rfl, k19, ?_⟩
      refine Ctr.ret () ?_ trivial C
      rw [ev_right1 (x := e.er) h1, hgt, hrr]
      have hd' : (e.er.id.right && decide (e.er.id.d > 0)) = true := hd
      rw [hd']; rfl
    · have hat : e.er.at_ = e.id.g1 := by
        show (if e.id.d = 1 then e.id.g0 else if e.id.d = 2 then e.id.g1 else e.id.g2) = _
        rw [if_neg (by omega), if_pos (by omega)]
      by_cases hg : e.id.g1 = g
      rotate_left
      · rw [if_neg (by simpa using hg)]
        refine Ctr.ret () ?_ trivial C
        have : (e.er.at_ == g) = false := by rw [hat]; simpa using hg
        rw [ev_right1 (x := e.er) h1, this]; simp
      rw [if_pos (by simpa using hg)]
      have hgt : (e.er.at_ == g) = true := by rw [hat]; simpa using hg
      refine C.gives (c_ResRight ⟨e.rc, e.rv⟩) fun w16 k16 C => ⟨_, rfl, k16, ?_⟩
      by_cases hrr : e.er.resR = true
      rotate_left
      · rw [if_neg (by intro h; apply hrr; simp at h; exact h)]
        refine Ctr.ret () ?_ trivial C
        rw [ev_right1 (x := e.er) h1, Bool.eq_false_iff.2 hrr]; simp
      rw [if_pos (by have : Rs.right ⟨e.rc, e.rv⟩ = true := hrr; rw [this]; rfl)]
      refine C.gives (c_bare e) fun w19 k19 C => ⟨_, rfl, k19, ?_⟩
      refine Ctr.ret () ?_ trivial C
      rw [ev_right1 (x := e.er) h1, hgt, hrr]
      have hd' : (e.er.id.right && decide (e.er.id.d > 0)) = true := hd
      rw [hd']; rfl
    · have hat : e.er.at_ = e.id.g2 := by
        show (if e.id.d = 1 then e.id.g0 else if e.id.d = 2 then e.id.g1 else e.id.g2) = _
        rw [if_neg (by omega), if_neg (by omega)]
      by_cases hg : e.id.g2 = g
      rotate_left
      · rw [if_neg (by simpa using hg)]
        refine Ctr.ret () ?_ trivial C
        have : (e.er.at_ == g) = false := by rw [hat]; simpa using hg
        rw [ev_right1 (x := e.er) h1, this]; simp
      rw [if_pos (by simpa using hg)]
      have hgt : (e.er.at_ == g) = true := by rw [hat]; simpa using hg
      refine C.gives (c_ResRight ⟨e.rc, e.rv⟩) fun w16 k16 C => ⟨_, rfl, k16, ?_⟩
      by_cases hrr : e.er.resR = true
      rotate_left
      · rw [if_neg (by intro h; apply hrr; simp at h; exact h)]
        refine Ctr.ret () ?_ trivial C
        rw [ev_right1 (x := e.er) h1, Bool.eq_false_iff.2 hrr]; simp
      rw [if_pos (by have : Rs.right ⟨e.rc, e.rv⟩ = true := hrr; rw [this]; rfl)]
      refine C.gives (c_bare e) fun w19 k19 C => ⟨_, rfl, k19, ?_⟩
      refine Ctr.ret () ?_ trivial C
      rw [ev_right1 (x := e.er) h1, hgt, hrr]
      have hd' : (e.er.id.right && decide (e.er.id.d > 0)) = true := hd
      rw [hd']; rfl
  rw [if_neg (by simpa using h1)]
  by_cases h2 : e.kd = 2
  · rw [if_pos (by simpa using h2)]
    intro w2 L3 hw2 g2
    refine (C.hidL hw2 g2).gives (c_Proc_Right e.vn e.vl) fun w5 k5 C => ⟨_, rfl, k5, ?_⟩
    rw [i_zero_eq e.id]
    by_cases hc : ((rightP e.vn e.vl && ((e.rc == 0) && (e.rv == ByteArray.mk #[]))) && decide (e.id = I.zero)) = true
    rotate_left
    · rw [if_neg (by intro h; apply hc; simpa using h)]
      refine Ctr.ret () ?_ trivial C
      have hc' : (rightP e.er.vn e.er.vl && e.er.res0 && decide (e.er.id = I.zero)) = false := Bool.eq_false_iff.2 hc
      rw [ev_right2 (x := e.er) h2, hc']; rfl
    rw [if_pos (by rw [hc]; rfl)]
    refine C.gives (c_bare e) fun w8 k8 C => ⟨_, rfl, k8, Ctr.ret () ?_ trivial C⟩
    have hc' : (rightP e.er.vn e.er.vl && e.er.res0 && decide (e.er.id = I.zero)) = true := hc
    rw [ev_right2 (x := e.er) h2, hc']
  rw [if_neg (by simpa using h2)]
  intro w1 hw1
  refine Ctr.ret () ?_ trivial (C.hid0 hw1)
  have : e.er.right g = false := by rw [Ev.right, if_neg (show ¬ e.er.kd = 0 from h0), if_neg (show ¬ e.er.kd = 3 from h3), if_neg (show ¬ e.er.kd = 1 from h1), if_neg (show ¬ e.er.kd = 2 from h2)]
  rw [this]
theorem c_r5Right (e : En) (g : Int) (hi : EvIn e.er) : Ctr Tryd.prog 10 #[.agg e.row.toArray, .int .u8 g] (fun m => EnM m e) [] (fun _ : Unit => .bool (e.er.right g)) (fun _ _ => True) (fun _ => []) := by
  refine Ctr.mk fun w F m C he => x_r5Right _ _ _ _ _ _ _ _ _ _ _ _ _ _ _ _ _ _ _ _ _ _ _ w _ ?_
  have hpl := he.pl
  have hwl := he.wl
  by_cases h0 : e.kd = 0
  · rw [if_pos (by simpa using h0)]
    intro w44 L45 h44 g44
    refine (c_rcall e g hi).call (As := []) (C.hidL h44 g44) he fun _ m2 w47 hk hm _ C => ⟨_, rfl, hk, Ctr.ret () ?_ trivial C⟩
    rw [ev_right0 (x := e.er) h0, len0]; rfl
  rw [if_neg (by simpa using h0)]
  by_cases h3 : e.kd = 3
  · rw [if_pos (by simpa using h3)]
    intro w33 L34 h33 g33
    refine (c_rcall e g hi).call (As := []) (C.hidL h33 g33) he fun _ m2 w36 hk hm _ C => ⟨_, rfl, hk, ?_⟩
    by_cases ha : e.er.ask g = true
    rotate_left
    · rw [if_neg (by intro h; apply ha; simpa using h)]
      refine Ctr.ret () ?_ trivial C
      rw [ev_right3 (x := e.er) h3, Bool.eq_false_iff.2 ha]; rfl
    rw [if_pos (by rw [ha]; rfl)]
    obtain ⟨p, l, hpl'⟩ := ask_ne ha
    have hps : e.ps = p :: l := hpl'
    refine (c_rcheck e p l hps).call (As := []) C (he.mono hm) fun _ m3 w27 hk hm3 _ C => ⟨_, rfl, hk, Ctr.ret () ?_ trivial C⟩
    rw [ev_right3 (x := e.er) h3, ha]
  rw [if_neg (by simpa using h3)]
  by_cases h1 : e.kd = 1
  · rw [if_pos (by simpa using h1)]
    intro w10 L11 h10 g10
    refine (C.hidL h10 g10).gives (c_ref_Right e.id hi.id) fun w13 k13 C => ⟨_, rfl, k13, ?_⟩
    by_cases hd : (e.id.right && decide (e.id.d > 0)) = true
    rotate_left
    · rw [if_neg (by intro h; apply hd; simpa using h)]
      refine Ctr.ret () ?_ trivial C
      have hd' : (e.er.id.right && decide (e.er.id.d > 0)) = false := Bool.eq_false_iff.2 hd
      rw [ev_right1 (x := e.er) h1, hd']; simp
    rw [if_pos (by rw [hd]; rfl)]
    have hdd : 0 < e.id.d ∧ e.id.d ≤ 3 := by
      simp only [Bool.and_eq_true, decide_eq_true_eq] at hd
      exact ⟨hd.2, (right_d hi.id hd.1).2⟩
    rw [w_u8 (n := e.id.d - 1) (by omega) (by omega)]
    refine ⟨by omega, by omega, ⟨fun hj => ?_, fun hj => ?_⟩, fun hj => ?_⟩
    · have hat : e.er.at_ = e.id.g0 := by
        show (if e.id.d = 1 then e.id.g0 else if e.id.d = 2 then e.id.g1 else e.id.g2) = _
        rw [if_pos (by omega)]
      by_cases hg : e.id.g0 = g
      rotate_left
      · rw [if_neg (by simpa using hg)]
        refine Ctr.ret () ?_ trivial C
        have : (e.er.at_ == g) = false := by rw [hat]; simpa using hg
        rw [ev_right1 (x := e.er) h1, this]; simp
      rw [if_pos (by simpa using hg)]
      have hgt : (e.er.at_ == g) = true := by rw [hat]; simpa using hg
      refine C.gives (c_rRightRes ⟨e.rc, e.rv⟩) fun w16 k16 C => ⟨_, rfl, k16, ?_⟩
      refine Ctr.ret () ?_ trivial C
      rw [ev_right1 (x := e.er) h1, hgt, w_i64 (by omega) (by omega)]
      have hd' : (e.er.id.right && decide (e.er.id.d > 0)) = true := hd
      rw [hd']
      have hb : e.er.bare = ((e.fl == 0) && (((e.ps.length : Nat) : Int) + ((e.ws.length : Nat) : Int) == 0)) := bare_add e
      rw [hb]
      show _ = Ending.returned (.bool (true && true && Rs.right ⟨e.rc, e.rv⟩ && _ && _))
      simp only [Bool.true_and, Bool.and_assoc]; rfl
    · have hat : e.er.at_ = e.id.g1 := by
        show (if e.id.d = 1 then e.id.g0 else if e.id.d = 2 then e.id.g1 else e.id.g2) = _
        rw [if_neg (by omega), if_pos (by omega)]
      by_cases hg : e.id.g1 = g
      rotate_left
      · rw [if_neg (by simpa using hg)]
        refine Ctr.ret () ?_ trivial C
        have : (e.er.at_ == g) = false := by rw [hat]; simpa using hg
        rw [ev_right1 (x := e.er) h1, this]; simp
      rw [if_pos (by simpa using hg)]
      have hgt : (e.er.at_ == g) = true := by rw [hat]; simpa using hg
      refine C.gives (c_rRightRes ⟨e.rc, e.rv⟩) fun w16 k16 C => ⟨_, rfl, k16, ?_⟩
      refine Ctr.ret () ?_ trivial C
      rw [ev_right1 (x := e.er) h1, hgt, w_i64 (by omega) (by omega)]
      have hd' : (e.er.id.right && decide (e.er.id.d > 0)) = true := hd
      rw [hd']
      have hb : e.er.bare = ((e.fl == 0) && (((e.ps.length : Nat) : Int) + ((e.ws.length : Nat) : Int) == 0)) := bare_add e
      rw [hb]
      show _ = Ending.returned (.bool (true && true && Rs.right ⟨e.rc, e.rv⟩ && _ && _))
      simp only [Bool.true_and, Bool.and_assoc]; rfl
    · have hat : e.er.at_ = e.id.g2 := by
        show (if e.id.d = 1 then e.id.g0 else if e.id.d = 2 then e.id.g1 else e.id.g2) = _
        rw [if_neg (by omega), if_neg (by omega)]
      by_cases hg : e.id.g2 = g
      rotate_left
      · rw [if_neg (by simpa using hg)]
        refine Ctr.ret () ?_ trivial C
        have : (e.er.at_ == g) = false := by rw [hat]; simpa using hg
        rw [ev_right1 (x := e.er) h1, this]; simp
      rw [if_pos (by simpa using hg)]
      have hgt : (e.er.at_ == g) = true := by rw [hat]; simpa using hg
      refine C.gives (c_rRightRes ⟨e.rc, e.rv⟩) fun w16 k16 C => ⟨_, rfl, k16, ?_⟩
      refine Ctr.ret () ?_ trivial C
      rw [ev_right1 (x := e.er) h1, hgt, w_i64 (by omega) (by omega)]
      have hd' : (e.er.id.right && decide (e.er.id.d > 0)) = true := hd
      rw [hd']
      have hb : e.er.bare = ((e.fl == 0) && (((e.ps.length : Nat) : Int) + ((e.ws.length : Nat) : Int) == 0)) := bare_add e
      rw [hb]
      show _ = Ending.returned (.bool (true && true && Rs.right ⟨e.rc, e.rv⟩ && _ && _))
      simp only [Bool.true_and, Bool.and_assoc]; rfl
  rw [if_neg (by simpa using h1)]
  by_cases h2 : e.kd = 2
  · rw [if_pos (by simpa using h2)]
    intro w2 L3 hw2 g2
    refine (C.hidL hw2 g2).gives (c_ref_RightProc e.vn e.vl) fun w5 k5 C => ⟨_, rfl, k5, ?_⟩
    rw [i_zero_eq e.id]
    refine Ctr.ret () ?_ trivial C
    rw [ev_right2 (x := e.er) h2, bare_add, w_i64 (by omega) (by omega)]
    show _ = Ending.returned (.bool (rightP e.vn e.vl && ((e.rc == 0) && (e.rv == ByteArray.mk #[])) && decide (e.id = I.zero) && _))
    simp only [Bool.and_assoc]
  rw [if_neg (by simpa using h2)]
  intro w1 hw1
  refine Ctr.ret () ?_ trivial (C.hid0 hw1)
  have : e.er.right g = false := by rw [Ev.right, if_neg (show ¬ e.er.kd = 0 from h0), if_neg (show ¬ e.er.kd = 3 from h3), if_neg (show ¬ e.er.kd = 1 from h1), if_neg (show ¬ e.er.kd = 2 from h2)]
  rw [this]
end Go.Proofs
