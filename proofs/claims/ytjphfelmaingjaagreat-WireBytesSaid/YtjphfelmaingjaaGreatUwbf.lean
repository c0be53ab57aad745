import Derived.Test.YtjphfelmaingjaaGreatUwbe
import Derived.Test.YtjphfelmaingjaaGreatVwbd
import Derived.Test.YtjphfelmaingjaaGreatRows
import Derived.Test.YtjphfelmaingjaaGreatChecked
set_option linter.unusedVariables false
set_option linter.unusedSimpArgs false
set_option maxHeartbeats 1000000
set_option maxRecDepth 10000
set_option maxRecDepth 100000
namespace Go.Proofs
open Go X RowKit
def Mv.setF (x o : Mv) (c : Int) : Mv :=
  if c = 103 then { o with gr := x.gr }
  else if c = 105 then { o with id := x.id }
  else if c = 102 then { o with fl := x.fl }
  else if c = 112 then { o with ps := x.ps }
  else if c = 114 then { o with rc := x.rc, rv := x.rv }
  else if c = 118 then { o with vg := x.vg, vn := x.vn, vm := x.vm }
  else if c = 99 then { o with co := x.co }
  else if c = 110 then { o with nn := x.nn }
  else if c = 97 then { o with fr := x.fr }
  else if c = 107 then { o with cm := x.cm }
  else if c = 101 then { o with es := x.es }
  else if c = 98 then { o with ba := x.ba }
  else if c = 104 then { o with has := x.has }
  else if c = 120 then { o with ac := x.ac }
  else if c = 109 then { o with ms := x.ms, ts := x.ts }
  else if c = 115 then { o with pn := x.pn, pl := x.pl }
  else o
theorem lV103 (x : Mv) : ltB x 103 = [u8 x.gr] := rfl
theorem lV105 (x : Mv) : ltB x 105 = idB x.id := rfl
theorem lV102 (x : Mv) : ltB x 102 = putU x.fl.toNat := rfl
theorem lV112 (x : Mv) : ltB x 112 = listB ptB x.ps := rfl
theorem lV114 (x : Mv) : ltB x 114 = resB x.rc x.rv := rfl
theorem lV118 (x : Mv) : ltB x 118 = vwB x.vg x.vn x.vm := rfl
theorem lV99 (x : Mv) : ltB x 99 = [u8 x.co] := rfl
theorem lV110 (x : Mv) : ltB x 110 = putU x.nn.toNat := rfl
theorem lV97 (x : Mv) : ltB x 97 = putU x.fr.toNat := rfl
theorem lV107 (x : Mv) : ltB x 107 = putU x.cm.toNat := rfl
theorem lV101 (x : Mv) : ltB x 101 = evsB x.es := rfl
theorem lV98 (x : Mv) : ltB x 98 = putU x.ba.toNat := rfl
theorem lV104 (x : Mv) : ltB x 104 = [flagB x.has] := rfl
theorem lV120 (x : Mv) : ltB x 120 = putU x.ac.toNat := rfl
theorem lV109 (x : Mv) : ltB x 109 = valB x.ms x.ts := rfl
theorem lV115 (x : Mv) : ltB x 115 = putP x.pn x.pl := rfl
theorem vwOk_len {g n : Int} {l : List Pr} (h : vwOk g n l = true) : l.length ≤ 8 := by
  have h2 := of_decide_eq_true (show decide (g < 4 ∧ n ≠ 0 ∧ l.length ≠ 0 ∧ l.length ≤ 8 ∧ okL l) = true from h)
  exact h2.2.2.2.1
def ltD (x : Mv) (c : Int) : Prop :=
  if c = 105 then x.id.d ≤ 3 else if c = 101 then ∀ e ∈ x.es, e.id.d ≤ 3 else if c = 109 then ∀ e ∈ x.ts, e.id.d ≤ 3 else True
theorem putU10 {n : Int} (h : n < 18446744073709551616) : (putU n.toNat).length ≤ 10 := putU_10 (by omega)
theorem putP_le {n l : Int} (hl : l < 65536) : (putP n l).length ≤ 11 := by
  have := putU10 (n := l) (by omega)
  rw [putP, List.length_cons]; omega
theorem textB_le {s : ByteArray} {k : Nat} (h : s.size ≤ k) (hk : k ≤ 100000) : (textB s).length ≤ k + 10 := by
  have hd : s.data.toList.length = s.size := data_len s
  have := putU_10 (n := s.size) (by omega)
  rw [textB, List.length_append]; omega
theorem flat_bound {α : Type} {f : α → List UInt8} {k : Nat} : ∀ (l : List α), (∀ x ∈ l, (f x).length ≤ k) → (l.flatMap f).length ≤ l.length * k
  | [], h => Nat.zero_le _
  | x :: l, h => by
    have h1 := h x (List.mem_cons_self ..)
    have h2 := flat_bound l fun y hy => h y (List.mem_cons_of_mem _ hy)
    rw [List.flatMap_cons, List.length_append, List.length_cons, Nat.succ_mul]; omega
theorem list_bound {α : Type} {f : α → List UInt8} {k n : Nat} {l : List α} (hn : l.length ≤ n) (h : ∀ x ∈ l, (f x).length ≤ k) : (listB f l).length ≤ 1 + n * k := by
  have h1 := flat_bound (l.take 255) fun x hx => h x (List.mem_of_mem_take hx)
  have h2 : (l.take 255).length * k ≤ n * k := Nat.mul_le_mul_right _ (by rw [List.length_take]; omega)
  rw [listB, List.length_append, List.length_singleton]; omega
theorem idB_le {x : I} (hx : x.In) : (idB x).length ≤ 28 := by
  have h1 := putP_le (n := x.n) hx.l.2
  have h2 := putU10 (n := x.s) (by have := hx.s; omega)
  have h3 := flat_bound (f := stB) (k := 2) (stL x) fun p _ => Nat.le_refl _
  have h4 : (stL x).length ≤ 3 := by rw [stL, List.length_take]; simp; omega
  rw [idB]; simp only [List.length_append, List.length_singleton]; omega
theorem ptB_le {p : Pt} (hi : PtIn p) (hk : p.key.size ≤ 16) (hv : p.val.size ≤ 64) : (ptB p).length ≤ 112 := by
  have h1 := textB_le hk (by decide)
  have h2 := textB_le hv (by decide)
  have h3 := putU_10 (zig_lt hi.n)
  rw [ptB]; simp only [List.length_append, List.length_singleton]; omega
theorem pts_le {l : List Pt} (hi : ∀ p ∈ l, PtIn p) (h : rightL l = true) : (listB ptB l).length ≤ 449 := by
  obtain ⟨h1, h2⟩ := rightL_sizes h
  exact list_bound (k := 112) (n := 4) h1 fun p hp => ptB_le (hi p hp) (h2 p hp).1 (h2 p hp).2
theorem resB_le {c : Int} {v : ByteArray} (h : v.size ≤ 1000) : (resB c v).length ≤ 1011 := by
  have := textB_le h (by decide)
  rw [resB]; simp only [List.length_append, List.length_singleton]; omega
theorem evB_le {e : Ev} {g : Int} (hi : EvIn e) (hr : e.right g = true) : (evB e).length ≤ 1601 := by
  have hk := hi.kd
  have hid := idB_le hi.id
  have hfl := putU10 (n := e.fl) (by have := hi.fl; omega)
  have hkd : e.kd = 0 ∨ e.kd = 3 ∨ e.kd = 1 ∨ e.kd = 2 ∨ (e.kd ≠ 0 ∧ e.kd ≠ 1 ∧ e.kd ≠ 2 ∧ e.kd ≠ 3) := by omega
  rcases hkd with h | h | h | h | h
  · rw [ev_right0 h] at hr
    simp only [Ev.ask, Bool.and_eq_true] at hr
    have := pts_le hi.ps hr.1.1.1.1.1.1.2
    rw [evB0 h]; simp only [List.length_append, List.length_singleton]; omega
  · rw [ev_right3 h] at hr
    simp only [Ev.ask, Ev.chk, Bool.and_eq_true] at hr
    have hps := hr.1.1.1.1.1.2
    have h1 := pts_le hi.ps hps
    have hres := hr.2.1.1.1
    have hwr := hr.2.2
    simp only [Ev.resR, Rs.right, Bool.and_eq_true, decide_eq_true_eq] at hres
    have h2 := resB_le (c := e.rc) (v := e.rv) (by omega)
    have h3 : (listB wrB e.ws).length ≤ 102 := by
      have hs := rightL_sizes hps
      refine list_bound (k := 101) (n := 1) ?_ ?_
      · unfold Ev.wrote at hwr
        split at hwr
        · cases hwr
        · split at hwr
          · simp only [decide_eq_true_eq] at hwr; omega
          · split at hwr
            · rename_i w0 hw; rw [hw]; simp
            · cases hwr
      · intro x hx
        unfold Ev.wrote at hwr
        split at hwr
        · cases hwr
        · rename_i p l hp
          split at hwr
          · simp only [decide_eq_true_eq] at hwr
            rw [List.eq_nil_of_length_eq_zero hwr] at hx; cases hx
          · split at hwr
            · rename_i w0 hw
              rw [hw] at hx
              simp only [List.mem_singleton] at hx; subst hx
              simp only [wOk, Bool.and_eq_true, beq_iff_eq, decide_eq_true_eq] at hwr
              have hz := (hs.2 p (by rw [hp]; exact List.mem_cons_self ..)).1
              have hsz := size_toL hwr.1.1
              have a := textB_le (s := x.key) (k := 16) (by omega) (by decide)
              have b := textB_le (s := x.val) (k := 64) (by omega) (by decide)
              rw [wrB]; simp only [List.length_append, List.length_singleton]; omega
            · cases hwr
    rw [evB3 h]; simp only [List.length_append, List.length_singleton]; omega
  · rw [ev_right1 h] at hr
    simp only [Bool.and_eq_true] at hr
    have hres := hr.1.1.2
    simp only [Ev.resR, Rs.right, Bool.and_eq_true, decide_eq_true_eq] at hres
    have h2 := resB_le (c := e.rc) (v := e.rv) (by omega)
    rw [evB1 h]; simp only [List.length_append, List.length_singleton]; omega
  · have := putP_le (n := e.vn) hi.vl.2
    rw [evB2 h]; simp only [List.length_append, List.length_singleton]; omega
  · rw [evBx h.1 h.2.1 h.2.2.1 h.2.2.2]; simp
theorem evs_le {l : List Ev} {g : Int} (hi : ∀ e ∈ l, EvIn e) (h : allE l g = true) (hl : l.length ≤ 150) : (evsB l).length ≤ 240160 := by
  simp only [allE, Bool.and_eq_true, List.all_eq_true] at h
  have h1 := flat_bound (f := evB) (k := 1601) l fun e he => evB_le (hi e he) (h.2 e he)
  have h2 := putU_10 (n := l.length) (by omega)
  have h3 : l.length * 1601 ≤ 150 * 1601 := Nat.mul_le_mul_right _ hl
  rw [evsB, List.length_append]; omega
def ltW (c : UInt8) : Nat := if c = 101 then 240160 else if c = 109 then 240300 else 1011
theorem lt_le {x : Mv} (hi : MvF x) (h1 : x.es.length ≤ 150) (h2 : x.ts.length ≤ 150) (c : UInt8) (h : x.fldR ((c.toNat : Nat) : Int) = true) : (ltB x ((c.toNat : Nat) : Int)).length ≤ ltW c := by
  have hpr : ∀ l : List Pr, l.length ≤ 8 → (∀ p ∈ l, PrW p) → (listB prB l).length ≤ 89 := fun l hl hp => list_bound (k := 11) (n := 8) hl fun p hm => putP_le (hp p hm).l.2
  by_cases c101 : c = 101
  · subst c101
    have hc : (((101 : UInt8).toNat : Nat) : Int) = 101 := rfl
    rw [hc, fR101 rfl] at h
    simp only [Bool.and_eq_true] at h
    rw [hc, lV101]; exact evs_le hi.es h.1 h1
  by_cases c109 : c = 109
  · subst c109
    have hc : (((109 : UInt8).toNat : Nat) : Int) = 109 := rfl
    rw [hc, fR109 rfl] at h
    simp only [Bool.and_eq_true] at h
    have a := hpr x.ms (vwOk_len h.1) hi.msW
    have b := evs_le hi.ts h.2 h2
    rw [hc, lV109, valB, List.length_append]
    show _ ≤ 240300
    omega
  have hW : ltW c = 1011 := by rw [ltW, if_neg c101, if_neg c109]
  rw [hW]
  have n101 : ((c.toNat : Nat) : Int) ≠ 101 := fun hc => c101 (UInt8.toNat_inj.1 (show c.toNat = 101 by omega))
  have n109 : ((c.toNat : Nat) : Int) ≠ 109 := fun hc => c109 (UInt8.toNat_inj.1 (show c.toNat = 109 by omega))
  generalize ((c.toNat : Nat) : Int) = d at h n101 n109 ⊢
  by_cases h103 : d = 103
  · subst h103
    rw [lV103]
    exact Nat.le_trans (Nat.le_refl 1) (by decide)
  by_cases h105 : d = 105
  · subst h105
    rw [lV105]
    exact Nat.le_trans (idB_le hi.id) (by decide)
  by_cases h102 : d = 102
  · subst h102
    rw [lV102]
    exact Nat.le_trans (putU10 (by have := hi.fl; omega)) (by decide)
  by_cases h112 : d = 112
  · subst h112
    rw [lV112]
    rw [fR112 rfl] at h
    simp only [Mv.prt, Bool.and_eq_true] at h
    exact Nat.le_trans (pts_le hi.ps h.1.1) (by decide)
  by_cases h114 : d = 114
  · subst h114
    rw [lV114]
    rw [fR114 rfl] at h
    simp only [Mv.resR, Rs.right, Bool.and_eq_true, decide_eq_true_eq] at h
    exact resB_le (by omega)
  by_cases h118 : d = 118
  · subst h118
    rw [lV118]
    rw [fR118 rfl] at h
    have a := hpr x.vm (vwOk_len h) hi.vmW
    have b := putU10 (n := x.vn) (by have := hi.vn32; omega)
    rw [vwB]; simp only [List.length_append, List.length_singleton]; omega
  by_cases h99 : d = 99
  · subst h99
    rw [lV99]
    exact Nat.le_trans (Nat.le_refl 1) (by decide)
  by_cases h110 : d = 110
  · subst h110
    rw [lV110]
    exact Nat.le_trans (putU10 hi.nn.2) (by decide)
  by_cases h97 : d = 97
  · subst h97
    rw [lV97]
    exact Nat.le_trans (putU10 (by have := hi.fr; omega)) (by decide)
  by_cases h107 : d = 107
  · subst h107
    rw [lV107]
    exact Nat.le_trans (putU10 (by have := hi.cm; omega)) (by decide)
  by_cases h98 : d = 98
  · subst h98
    rw [lV98]
    exact Nat.le_trans (putU10 hi.ba.2) (by decide)
  by_cases h104 : d = 104
  · subst h104
    rw [lV104]
    exact Nat.le_trans (Nat.le_refl 1) (by decide)
  by_cases h120 : d = 120
  · subst h120
    rw [lV120]
    exact Nat.le_trans (putU10 hi.ac.2) (by decide)
  by_cases h115 : d = 115
  · subst h115
    rw [lV115]
    exact Nat.le_trans (putP_le hi.pl.2) (by decide)
  have hz : ltB x d = [] := by rw [ltB, if_neg h103, if_neg h105, if_neg h102, if_neg h112, if_neg h114, if_neg h118, if_neg h99, if_neg h110, if_neg h97, if_neg h107, if_neg n101, if_neg h98, if_neg h104, if_neg h120, if_neg n109, if_neg h115]
  rw [hz]; exact Nat.zero_le _
theorem flat_sum {f : UInt8 → List UInt8} {W : UInt8 → Nat} : ∀ (l : List UInt8), (∀ c ∈ l, (f c).length ≤ W c) → (l.flatMap f).length ≤ (l.map W).sum
  | [], h => Nat.le_refl _
  | c :: l, h => by
    have h1 := h c (List.mem_cons_self ..)
    have h2 := flat_sum l fun y hy => h y (List.mem_cons_of_mem _ hy)
    rw [List.flatMap_cons, List.length_append, List.map_cons, List.sum_cons]; omega
theorem let_sum (k : Int) (has : Bool) : ((letL k has).map ltW).sum ≤ 500000 := by
  have hk : k = 0 ∨ k = 1 ∨ k = 2 ∨ k = 3 ∨ k = 4 ∨ k = 5 ∨ k = 6 ∨ k = 7 ∨ k = 8 ∨ k = 9 ∨ k = 10 ∨ k = 11 ∨ k = 12 ∨ k = 13 ∨ ¬ (0 ≤ k ∧ k ≤ 13) := by omega
  rcases hk with rfl | rfl | rfl | rfl | rfl | rfl | rfl | rfl | rfl | rfl | rfl | rfl | rfl | rfl | h
  all_goals first
    | (cases has <;> decide)
    | (rw [letL, if_neg (by omega), fldSo h]; decide)
theorem msg_le {x : Mv} (hi : MvF x) (hr : x.right = true) (h1 : x.es.length ≤ 150) (h2 : x.ts.length ≤ 150) : (msgB x).length ≤ 500001 := by
  have hR : x.rightR = true := by rw [rightR_eq x hi.kd.1]; exact hr
  simp only [Mv.rightR, Bool.and_eq_true, decide_eq_true_eq, List.all_eq_true] at hR
  have h3 := flat_sum (letL x.kd x.has) (fun c hc => lt_le hi h1 h2 c (hR.1.2 c hc))
  have h4 := let_sum x.kd x.has
  rw [msgB, List.length_append, List.length_singleton, fld_letters]; omega
end Go.Proofs
namespace Go.Proofs
open Go X RowKit
theorem mk_M {m : Mem} {x : Mg} (h : MgM0 m x) (l : x.lt) : MgM m x :=
  ⟨h.p, h.v, h.mm, ⟨h.e.1, fun e he => ⟨(h.e.2 e he).p, (h.e.2 e he).w, by have := (l.e.2 e he).1; omega, by have := (l.e.2 e he).2; omega⟩⟩, ⟨h.t.1, fun e he => ⟨(h.t.2 e he).p, (h.t.2 e he).w, by have := (l.t.2 e he).1; omega, by have := (l.t.2 e he).2; omega⟩⟩, h.pl, by have := l.v; omega, by have := l.m; omega, by have := l.e.1; omega, by have := l.t.1; omega⟩
theorem lt_len {x : Mg} (l : x.lt) : x.er.es.length ≤ 150 ∧ x.er.ts.length ≤ 150 := by
  have h1 := l.e.1; have h2 := l.t.1
  have e1 : x.er.es.length = x.es.length := by show (x.es.map En.er).length = _; simp
  have e2 : x.er.ts.length = x.ts.length := by show (x.ts.map En.er).length = _; simp
  omega
theorem s_beq (l : List UInt8) : ((toBA l).toList == (toBA l).toList) = true := by simp
theorem l_WireBytes (w : World) (a : Mg) (q : Sl) (b : List UInt8) (hA : MgM0 (memOf w) a) (hB : bsM (memOf w) q b) (hi : MvF a.er) : Calls Tryz.prog 3 #[.agg a.row.toArray, slV q b.length] w (LawR w) := by
  refine x_WireBytes _ _ _ _ _ _ _ _ _ _ _ _ _ _ _ _ _ _ _ _ _ _ _ _ _ _ _ _ _ _ _ _ _ _ _ _ _ _ _ _ _ _ _ _ w _ fun w1 L2 h1 g1 => ?_
  refine (c_Light7 a).call (As := []) ((lawStart w).hidL h1 g1) hA fun b1 m1 w4 hk hm1 hb1 C => ⟨b1, rfl, hk, ?_⟩
  by_cases hg : ((!b1) || decide (((b.length : Nat) : Int) > 4000)) = true
  · rw [if_pos hg]
    exact C.gives g_knows fun w7 k7 C => ⟨_, rfl, k7, rfl, Ctx.at_ C⟩
  rw [if_neg hg]
  simp only [Bool.or_eq_true, Bool.not_eq_true', decide_eq_true_eq, not_or, Bool.not_eq_false] at hg
  obtain ⟨hb1t, hbl⟩ := hg
  have hlt := hb1 hb1t
  have mA := mk_M (hA.mono hm1) hlt
  have hle := lt_len hlt
  replace hB := hB.mono hm1
  clear hA hb1
  refine (c_OwnMC a).call (As := []) C mA fun y m2 w7 hk hm2 hy C => ⟨_, _, _, _, _, _, _, _, _, _, _, _, _, _, _, _, _, _, _, _, _, _, _, _, _, _, _, _, _, _, _, _, _, _, _, _, _, _, _, _, _, rfl, hk, ?_⟩
  obtain ⟨yM, yE, yC⟩ := hy
  refine (c_BytesR y (by rw [yE]; exact hi) yC (fun hr => by rw [yE] at hr ⊢; have := msg_le hi hr hle.1 hle.2; omega)).call (As := []) C yM fun q1 m3 w50 hk hm3 _ C => ⟨_, _, _, _, rfl, hk, ?_⟩
  rw [yE] at C ⊢
  obtain ⟨m4, hm4, hx, C⟩ := Ctx.slShare C
  replace hx : bsM m4 q1 (byS a.er).1 := hx
  replace mA := ((mA.mono hm2).mono hm3).mono hm4
  replace hB := ((hB.mono hm2).mono hm3).mono hm4
  clear yM
  refine (c_r7BytesR a hi (fun hr => by have := msg_le hi hr hle.1 hle.2; omega)).call (As := []) C mA fun q2 m5 w56 hk hm5 _ C => ⟨_, _, _, _, rfl, hk, ?_⟩
  obtain ⟨m6, hm6, hz, C⟩ := Ctx.slShare C
  replace hz : bsM m6 q2 (byS a.er).1 := hz
  replace hx := (hx.mono hm5).mono hm6
  replace hB := (hB.mono hm5).mono hm6
  clear mA
  obtain ⟨q3, c3, w64, hr, hk3, C⟩ := ow_app0 (ow_new C) hB (by omega)
  obtain ⟨m7, hm7, hc, C⟩ := C.slShare
  refine ⟨q3, _, c3, w64, hr, hk3, ?_⟩
  replace hx := hx.mono hm7
  replace hz := hz.mono hm7
  replace hB := hB.mono hm7
  refine (c_Read7 (q3, c3) b (by omega)).call (As := []) C hc fun p m8 w66 hk hm8 hp C => ⟨_, _, _, _, _, _, _, _, _, _, _, _, _, _, _, _, _, _, _, _, _, _, _, _, _, _, _, _, _, _, _, _, _, _, _, _, _, _, _, _, _, _, rfl, hk, fun w109 L110 h109 g109 => ?_⟩
  replace hx := hx.mono hm8
  replace hz := hz.mono hm8
  replace hB := hB.mono hm8
  clear hc
  refine (c_r7Read q b (by omega)).call (As := []) (C.hidL h109 g109) hB fun p2 m9 w112 hk hm9 hp2 C => ⟨_, _, _, _, _, _, _, _, _, _, _, _, _, _, _, _, _, _, _, _, _, _, _, _, _, _, _, _, _, _, _, _, _, _, _, _, _, _, _, _, _, _, rfl, hk, ?_⟩
  replace hx := hx.mono hm9
  replace hz := hz.mono hm9
  obtain ⟨pM, _, pE⟩ := hp
  obtain ⟨p2M, p2E⟩ := hp2
  replace pM := pM.mono hm9
  clear hB
  refine ⟨[], facts_nil _ _, fun wa La ha ga => ?_, fun wa La ha ga => ?_⟩
  · replace C := C.hidL ha ga
    have s1 := run_str (P := Tryz.prog) (e := 5) Tryz.underlying41 Tryz.underlying5 Tryz.underlying9 (C.src hx) ⟨_, _, rfl⟩
    have s2 := run_str (P := Tryz.prog) (e := 5) Tryz.underlying41 Tryz.underlying5 Tryz.underlying9 (C.src hz) ⟨_, _, rfl⟩
    refine ⟨_, _, s1, X.kept_refl _ _, facts_nil _ _, [], facts_nil _ _, (fun _ h => h), _, _, s2, X.kept_refl _ _, facts_nil _ _, [], facts_nil _ _, (fun _ h => h), ?_⟩
    rw [if_pos (by rw [s_beq]; rfl)]
    refine C.gives (c_num _) fun w1 k1 C => ⟨_, rfl, k1, facts_nil _ _, [], facts_nil _ _, (fun _ h => h), ?_⟩
    rw [if_pos (by simp)]
    refine (c_Ref7 p).call (As := []) C pM fun p1 m10 w2 hk hm10 hp1 C => ⟨_, _, _, _, _, _, _, _, _, _, _, _, _, _, _, _, _, _, _, _, _, _, _, _, _, _, _, _, _, _, _, _, _, _, _, _, _, _, _, _, _, rfl, hk, facts_nil _ _, ?_⟩
    refine (c_r7Same p1 p2).call (As := []) C ⟨hp1.1, p2M.mono hm10⟩ fun _ m11 w3 hk hm11 _ C => ⟨_, rfl, hk, facts_nil _ _, ?_⟩
    rw [decide_eq_true (show p1.er = p2.er by rw [hp1.2, pE, p2E]), if_pos (by decide)]
    refine C.gives (c_num _) fun w4 k4 C => ⟨_, rfl, k4, facts_nil _ _, ?_⟩
    rw [if_pos (by simp)]
    exact C.gives g_knows fun w5 k5 C => ⟨_, rfl, k5, facts_nil _ _, rfl, Ctx.at_ C⟩
  · replace C := C.hidL ha ga
    have s1 := run_str (P := Tryz.prog) (e := 5) Tryz.underlying41 Tryz.underlying5 Tryz.underlying9 (C.src hz) ⟨_, _, rfl⟩
    have s2 := run_str (P := Tryz.prog) (e := 5) Tryz.underlying41 Tryz.underlying5 Tryz.underlying9 (C.src hx) ⟨_, _, rfl⟩
    refine ⟨_, _, s1, X.kept_refl _ _, facts_nil _ _, [], facts_nil _ _, (fun _ h => h), _, _, s2, X.kept_refl _ _, facts_nil _ _, [], facts_nil _ _, (fun _ h => h), ?_⟩
    rw [if_pos (by rw [s_beq]; rfl)]
    refine C.gives (c_num _) fun w1 k1 C => ⟨_, rfl, k1, facts_nil _ _, [], facts_nil _ _, (fun _ h => h), ?_⟩
    rw [if_pos (by simp)]
    refine (c_Ref7 p).call (As := []) C pM fun p1 m10 w2 hk hm10 hp1 C => ⟨_, _, _, _, _, _, _, _, _, _, _, _, _, _, _, _, _, _, _, _, _, _, _, _, _, _, _, _, _, _, _, _, _, _, _, _, _, _, _, _, _, rfl, hk, facts_nil _ _, ?_⟩
    refine (c_r7Same p1 p2).call (As := []) C ⟨hp1.1, p2M.mono hm10⟩ fun _ m11 w3 hk hm11 _ C => ⟨_, rfl, hk, facts_nil _ _, ?_⟩
    rw [decide_eq_true (show p1.er = p2.er by rw [hp1.2, pE, p2E]), if_pos (by decide)]
    refine C.gives (c_num _) fun w4 k4 C => ⟨_, rfl, k4, facts_nil _ _, ?_⟩
    rw [if_pos (by simp)]
    exact C.gives g_knows fun w5 k5 C => ⟨_, rfl, k5, facts_nil _ _, rfl, Ctx.at_ C⟩
end Go.Proofs
namespace Go.Proofs.YtjphfelmaingjaaGreat
open Go X RowKit Go.ChangeShapes Go.WideShapes Go.ChangeAt Go.Proofs
theorem own : ownKnob Tryz.prog.godebug = none := by kernel_rfl
theorem wf_u8 {n : Int} (h : (Lit.int .u8 n).wf = true) : 0 ≤ n ∧ n < 256 := by
  simp [Lit.wf, IntKind.min, IntKind.max, IntKind.bits, IntKind.signed] at h; omega
theorem wf_u16 {n : Int} (h : (Lit.int .u16 n).wf = true) : 0 ≤ n ∧ n < 65536 := by
  simp [Lit.wf, IntKind.min, IntKind.max, IntKind.bits, IntKind.signed] at h; omega
theorem wf_u32 {n : Int} (h : (Lit.int .u32 n).wf = true) : 0 ≤ n ∧ n < 4294967296 := by
  simp [Lit.wf, IntKind.min, IntKind.max, IntKind.bits, IntKind.signed] at h; omega
theorem wf_u64 {n : Int} (h : (Lit.int .u64 n).wf = true) : 0 ≤ n ∧ n < 18446744073709551616 := by
  simp [Lit.wf, IntKind.min, IntKind.max, IntKind.bits, IntKind.signed] at h; omega
theorem wf_i64 {n : Int} (h : (Lit.int .i64 n).wf = true) : -9223372036854775808 ≤ n ∧ n ≤ 9223372036854775807 := by
  simp [Lit.wf, IntKind.min, IntKind.max, IntKind.bits, IntKind.signed] at h; omega
theorem wf_len {n : Nat} (h : n ≤ reachBytes) : n ≤ 281474976710656 := Nat.le_trans h (by decide)
structure EnIn (m : Mem) (a : En) : Prop where
  m : EnM0 m a
  i : EvIn a.er
structure MgIn (m : Mem) (a : Mg) : Prop where
  m : MgM0 m a
  i : MvF a.er
theorem in_map {W : Mem} {l : List En} (h : ∀ e ∈ l, EnIn W e) : ∀ e ∈ l.map En.er, EvIn e := fun e he => by
  obtain ⟨y, hy, rfl⟩ := List.mem_map.1 he
  exact (h y hy).i
section
variable {H : Type} {enc : TypeId × Value → H} {W : World} {sp : Nat → Bool} {fuel : Nat} {cs : List Value} {x : DataW H × List MemPlace}
theorem open_Pt (h : DataW.trod enc Tryz.prog W 0 sp true fuel 121 cs = some x) (hs : Small Tryz.prog 121 x.1) : ∃ a : Pt, cs = a.row ∧ PtIn a := by
  have F := fit_of_trod 60 fuel 121 _ _ (by kernel_rfl) h
  have E : cellTys Tryz.prog 60 121 = [.int .u8, .int .u8, .str, .str, .int .i64] := by kernel_rfl
  rw [E] at F
  obtain ⟨_, l0, rfl, ⟨a0, rfl, w0⟩, F1⟩ := fit_cons F
  obtain ⟨_, l1, rfl, ⟨a1, rfl, w1⟩, F2⟩ := fit_cons F1
  obtain ⟨_, l2, rfl, ⟨a2, rfl, w2⟩, F3⟩ := fit_cons F2
  obtain ⟨_, l3, rfl, ⟨a3, rfl, w3⟩, F4⟩ := fit_cons F3
  obtain ⟨_, l4, rfl, ⟨a4, rfl, w4⟩, F5⟩ := fit_cons F4
  obtain rfl := fit_nil F5
  obtain ⟨_, _, h2, h2s⟩ := trod_fieldS Tryz.underlying121 h hs 2 9 2 1 (by rfl) (by kernel_rfl)
  have b2 := small_str (s := a2) Tryz.underlying9 h2 h2s
  obtain ⟨_, _, h3, h3s⟩ := trod_fieldS Tryz.underlying121 h hs 3 9 3 1 (by rfl) (by kernel_rfl)
  have b3 := small_str (s := a3) Tryz.underlying9 h3 h3s
  exact ⟨⟨a0, a1, a2, a3, a4⟩, rfl, ⟨wf_u8 w0, wf_u8 w1, wf_i64 w4, wf_len b2, wf_len b3⟩⟩
theorem open_Wr (h : DataW.trod enc Tryz.prog W 0 sp true fuel 126 cs = some x) : ∃ a : Wr, cs = a.row ∧ True := by
  have F := fit_of_trod 60 fuel 126 _ _ (by kernel_rfl) h
  have E : cellTys Tryz.prog 60 126 = [.str, .str, .bool] := by kernel_rfl
  rw [E] at F
  obtain ⟨_, l0, rfl, ⟨a0, rfl, w0⟩, F1⟩ := fit_cons F
  obtain ⟨_, l1, rfl, ⟨a1, rfl, w1⟩, F2⟩ := fit_cons F1
  obtain ⟨_, l2, rfl, ⟨a2, rfl⟩, F3⟩ := fit_cons F2
  obtain rfl := fit_nil F3
  exact ⟨⟨a0, a1, a2⟩, rfl, trivial⟩
theorem open_Pr (h : DataW.trod enc Tryz.prog W 0 sp true fuel 26 cs = some x) : ∃ a : Pr, cs = a.row ∧ PrW a := by
  have F := fit_of_trod 60 fuel 26 _ _ (by kernel_rfl) h
  have E : cellTys Tryz.prog 60 26 = [.int .u8, .int .u16] := by kernel_rfl
  rw [E] at F
  obtain ⟨_, l0, rfl, ⟨a0, rfl, w0⟩, F1⟩ := fit_cons F
  obtain ⟨_, l1, rfl, ⟨a1, rfl, w1⟩, F2⟩ := fit_cons F1
  obtain rfl := fit_nil F2
  exact ⟨⟨a0, a1⟩, rfl, ⟨wf_u8 w0, wf_u16 w1⟩⟩
theorem open_En (h : DataW.trod enc Tryz.prog W 0 sp true fuel 124 cs = some x) (hs : Small Tryz.prog 124 x.1) : ∃ a : En, cs = a.row ∧ EnIn (memOf W) a := by
  have F := fit_of_trod 60 fuel 124 _ _ (by kernel_rfl) h
  have E : cellTys Tryz.prog 60 124 = [.int .u8, .int .u8, .int .u16, .int .u32, .int .u8, .int .u8, .int .u8, .int .u8, .int .u8, .int .u8, .int .u8, .int .u32, .slice, .int .u8, .str, .slice, .int .u8, .int .u16] := by kernel_rfl
  rw [E] at F
  obtain ⟨_, l0, rfl, ⟨a0, rfl, w0⟩, F1⟩ := fit_cons F
  obtain ⟨_, l1, rfl, ⟨a1, rfl, w1⟩, F2⟩ := fit_cons F1
  obtain ⟨_, l2, rfl, ⟨a2, rfl, w2⟩, F3⟩ := fit_cons F2
  obtain ⟨_, l3, rfl, ⟨a3, rfl, w3⟩, F4⟩ := fit_cons F3
  obtain ⟨_, l4, rfl, ⟨a4, rfl, w4⟩, F5⟩ := fit_cons F4
  obtain ⟨_, l5, rfl, ⟨a5, rfl, w5⟩, F6⟩ := fit_cons F5
  obtain ⟨_, l6, rfl, ⟨a6, rfl, w6⟩, F7⟩ := fit_cons F6
  obtain ⟨_, l7, rfl, ⟨a7, rfl, w7⟩, F8⟩ := fit_cons F7
  obtain ⟨_, l8, rfl, ⟨a8, rfl, w8⟩, F9⟩ := fit_cons F8
  obtain ⟨_, l9, rfl, ⟨a9, rfl, w9⟩, F10⟩ := fit_cons F9
  obtain ⟨_, l10, rfl, ⟨a10, rfl, w10⟩, F11⟩ := fit_cons F10
  obtain ⟨_, l11, rfl, ⟨a11, rfl, w11⟩, F12⟩ := fit_cons F11
  obtain ⟨_, l12, rfl, ⟨q12, n12, c12, rfl, w12, z12⟩, F13⟩ := fit_cons F12
  obtain ⟨_, l13, rfl, ⟨a13, rfl, w13⟩, F14⟩ := fit_cons F13
  obtain ⟨_, l14, rfl, ⟨a14, rfl, w14⟩, F15⟩ := fit_cons F14
  obtain ⟨_, l15, rfl, ⟨q15, n15, c15, rfl, w15, z15⟩, F16⟩ := fit_cons F15
  obtain ⟨_, l16, rfl, ⟨a16, rfl, w16⟩, F17⟩ := fit_cons F16
  obtain ⟨_, l17, rfl, ⟨a17, rfl, w17⟩, F18⟩ := fit_cons F17
  obtain rfl := fit_nil F18
  obtain ⟨_, _, h3, h3s⟩ := trod_fieldS Tryz.underlying124 h hs 3 32 12 1 (by rfl) (by kernel_rfl)
  obtain ⟨q12', c12', s12, e12, b12, m12, p12⟩ := trod_listS Tryz.underlying32 (k := 5) (by kernel_rfl) (by omega) h3 h3s (B := 48) (by kernel_rfl) pt_len (φ := PtIn) (fun g ec y h hs => open_Pt h hs)
  have e12' : [Value.slice q12 n12 c12] = [Value.slice q12' s12.length c12'] := e12
  injection e12' with e12' _
  injection e12' with f12 g12 k12
  subst f12; subst g12; subst k12
  obtain ⟨_, _, h4, h4s⟩ := trod_fieldS Tryz.underlying124 h hs 4 34 13 2 (by rfl) (by kernel_rfl)
  obtain ⟨_, _, h4_1, h4_1s⟩ := trod_fieldS Tryz.underlying34 h4 h4s 1 9 1 1 (by rfl) (by kernel_rfl)
  have b14 := small_str (s := a14) Tryz.underlying9 h4_1 h4_1s
  obtain ⟨_, _, h5, h5s⟩ := trod_fieldS Tryz.underlying124 h hs 5 122 15 1 (by rfl) (by kernel_rfl)
  obtain ⟨q15', c15', s15, e15, b15, m15, p15⟩ := trod_listS Tryz.underlying122 (k := 3) (by kernel_rfl) (by omega) h5 h5s (B := 40) (by kernel_rfl) wr_len (φ := fun _ : Wr => True) (fun g ec y h hs => open_Wr h)
  have e15' : [Value.slice q15 n15 c15] = [Value.slice q15' s15.length c15'] := e15
  injection e15' with e15' _
  injection e15' with f15 g15 k15
  subst f15; subst g15; subst k15
  exact ⟨⟨a0, ⟨a1, a2, a3, a4, a5, a6, a7, a8, a9, a10⟩, a11, (q12, c12), s12, a13, a14, (q15, c15), s15, a16, a17⟩, rfl, ⟨⟨m12, m15⟩, ⟨wf_u8 w0, ⟨wf_u8 w1, wf_u16 w2, wf_u32 w3, wf_u8 w4, wf_u8 w5, wf_u8 w6, wf_u8 w7, wf_u8 w8, wf_u8 w9, wf_u8 w10⟩, wf_u32 w11, p12, wf_u8 w13, wf_len b14, wf_u8 w16, wf_u16 w17⟩⟩⟩
theorem open_Mg (h : DataW.trod enc Tryz.prog W 0 sp true fuel 40 cs = some x) (hs : Small Tryz.prog 40 x.1) : ∃ a : Mg, cs = a.row ∧ MgIn (memOf W) a := by
  have F := fit_of_trod 60 fuel 40 _ _ (by kernel_rfl) h
  have E : cellTys Tryz.prog 60 40 = [.int .u8, .int .u8, .int .u8, .int .u32, .int .u32, .int .u32, .int .u32, .int .u64, .int .u64, .int .u8, .int .u16, .int .u32, .int .u8, .int .u8, .int .u8, .int .u8, .int .u8, .int .u8, .int .u8, .slice, .int .u8, .str, .int .u8, .int .u32, .slice, .int .u8, .int .u16, .bool, .slice, .slice, .slice] := by kernel_rfl
  rw [E] at F
  obtain ⟨_, l0, rfl, ⟨a0, rfl, w0⟩, F1⟩ := fit_cons F
  obtain ⟨_, l1, rfl, ⟨a1, rfl, w1⟩, F2⟩ := fit_cons F1
  obtain ⟨_, l2, rfl, ⟨a2, rfl, w2⟩, F3⟩ := fit_cons F2
  obtain ⟨_, l3, rfl, ⟨a3, rfl, w3⟩, F4⟩ := fit_cons F3
  obtain ⟨_, l4, rfl, ⟨a4, rfl, w4⟩, F5⟩ := fit_cons F4
  obtain ⟨_, l5, rfl, ⟨a5, rfl, w5⟩, F6⟩ := fit_cons F5
  obtain ⟨_, l6, rfl, ⟨a6, rfl, w6⟩, F7⟩ := fit_cons F6
  obtain ⟨_, l7, rfl, ⟨a7, rfl, w7⟩, F8⟩ := fit_cons F7
  obtain ⟨_, l8, rfl, ⟨a8, rfl, w8⟩, F9⟩ := fit_cons F8
  obtain ⟨_, l9, rfl, ⟨a9, rfl, w9⟩, F10⟩ := fit_cons F9
  obtain ⟨_, l10, rfl, ⟨a10, rfl, w10⟩, F11⟩ := fit_cons F10
  obtain ⟨_, l11, rfl, ⟨a11, rfl, w11⟩, F12⟩ := fit_cons F11
  obtain ⟨_, l12, rfl, ⟨a12, rfl, w12⟩, F13⟩ := fit_cons F12
  obtain ⟨_, l13, rfl, ⟨a13, rfl, w13⟩, F14⟩ := fit_cons F13
  obtain ⟨_, l14, rfl, ⟨a14, rfl, w14⟩, F15⟩ := fit_cons F14
  obtain ⟨_, l15, rfl, ⟨a15, rfl, w15⟩, F16⟩ := fit_cons F15
  obtain ⟨_, l16, rfl, ⟨a16, rfl, w16⟩, F17⟩ := fit_cons F16
  obtain ⟨_, l17, rfl, ⟨a17, rfl, w17⟩, F18⟩ := fit_cons F17
  obtain ⟨_, l18, rfl, ⟨a18, rfl, w18⟩, F19⟩ := fit_cons F18
  obtain ⟨_, l19, rfl, ⟨q19, n19, c19, rfl, w19, z19⟩, F20⟩ := fit_cons F19
  obtain ⟨_, l20, rfl, ⟨a20, rfl, w20⟩, F21⟩ := fit_cons F20
  obtain ⟨_, l21, rfl, ⟨a21, rfl, w21⟩, F22⟩ := fit_cons F21
  obtain ⟨_, l22, rfl, ⟨a22, rfl, w22⟩, F23⟩ := fit_cons F22
  obtain ⟨_, l23, rfl, ⟨a23, rfl, w23⟩, F24⟩ := fit_cons F23
  obtain ⟨_, l24, rfl, ⟨q24, n24, c24, rfl, w24, z24⟩, F25⟩ := fit_cons F24
  obtain ⟨_, l25, rfl, ⟨a25, rfl, w25⟩, F26⟩ := fit_cons F25
  obtain ⟨_, l26, rfl, ⟨a26, rfl, w26⟩, F27⟩ := fit_cons F26
  obtain ⟨_, l27, rfl, ⟨a27, rfl⟩, F28⟩ := fit_cons F27
  obtain ⟨_, l28, rfl, ⟨q28, n28, c28, rfl, w28, z28⟩, F29⟩ := fit_cons F28
  obtain ⟨_, l29, rfl, ⟨q29, n29, c29, rfl, w29, z29⟩, F30⟩ := fit_cons F29
  obtain ⟨_, l30, rfl, ⟨q30, n30, c30, rfl, w30, z30⟩, F31⟩ := fit_cons F30
  obtain rfl := fit_nil F31
  obtain ⟨_, _, h10, h10s⟩ := trod_fieldS Tryz.underlying40 h hs 10 32 19 1 (by rfl) (by kernel_rfl)
  obtain ⟨q19', c19', s19, e19, b19, m19, p19⟩ := trod_listS Tryz.underlying32 (k := 5) (by kernel_rfl) (by omega) h10 h10s (B := 48) (by kernel_rfl) pt_len (φ := PtIn) (fun g ec y h hs => open_Pt h hs)
  have e19' : [Value.slice q19 n19 c19] = [Value.slice q19' s19.length c19'] := e19
  injection e19' with e19' _
  injection e19' with f19 g19 k19
  subst f19; subst g19; subst k19
  obtain ⟨_, _, h11, h11s⟩ := trod_fieldS Tryz.underlying40 h hs 11 34 20 2 (by rfl) (by kernel_rfl)
  obtain ⟨_, _, h11_1, h11_1s⟩ := trod_fieldS Tryz.underlying34 h11 h11s 1 9 1 1 (by rfl) (by kernel_rfl)
  have b21 := small_str (s := a21) Tryz.underlying9 h11_1 h11_1s
  obtain ⟨_, _, h12, h12s⟩ := trod_fieldS Tryz.underlying40 h hs 12 37 22 3 (by rfl) (by kernel_rfl)
  obtain ⟨_, _, h12_2, h12_2s⟩ := trod_fieldS Tryz.underlying37 h12 h12s 2 35 2 1 (by rfl) (by kernel_rfl)
  obtain ⟨q24', c24', s24, e24, b24, m24, p24⟩ := trod_listS Tryz.underlying35 (k := 2) (by kernel_rfl) (by omega) h12_2 h12_2s (B := 4) (by kernel_rfl) pr_len (φ := PrW) (fun g ec y h hs => open_Pr h)
  have e24' : [Value.slice q24 n24 c24] = [Value.slice q24' s24.length c24'] := e24
  injection e24' with e24' _
  injection e24' with f24 g24 k24
  subst f24; subst g24; subst k24
  obtain ⟨_, _, h15, h15s⟩ := trod_fieldS Tryz.underlying40 h hs 15 35 28 1 (by rfl) (by kernel_rfl)
  obtain ⟨q28', c28', s28, e28, b28, m28, p28⟩ := trod_listS Tryz.underlying35 (k := 2) (by kernel_rfl) (by omega) h15 h15s (B := 4) (by kernel_rfl) pr_len (φ := PrW) (fun g ec y h hs => open_Pr h)
  have e28' : [Value.slice q28 n28 c28] = [Value.slice q28' s28.length c28'] := e28
  injection e28' with e28' _
  injection e28' with f28 g28 k28
  subst f28; subst g28; subst k28
  obtain ⟨_, _, h16, h16s⟩ := trod_fieldS Tryz.underlying40 h hs 16 38 29 1 (by rfl) (by kernel_rfl)
  obtain ⟨q29', c29', s29, e29, b29, m29, p29⟩ := trod_listS Tryz.underlying38 (k := 18) (by kernel_rfl) (by omega) h16 h16s (B := 104) (by kernel_rfl) en_len (φ := EnIn (memOf W)) (fun g ec y h hs => open_En h hs)
  have e29' : [Value.slice q29 n29 c29] = [Value.slice q29' s29.length c29'] := e29
  injection e29' with e29' _
  injection e29' with f29 g29 k29
  subst f29; subst g29; subst k29
  obtain ⟨_, _, h17, h17s⟩ := trod_fieldS Tryz.underlying40 h hs 17 38 30 1 (by rfl) (by kernel_rfl)
  obtain ⟨q30', c30', s30, e30, b30, m30, p30⟩ := trod_listS Tryz.underlying38 (k := 18) (by kernel_rfl) (by omega) h17 h17s (B := 104) (by kernel_rfl) en_len (φ := EnIn (memOf W)) (fun g ec y h hs => open_En h hs)
  have e30' : [Value.slice q30 n30 c30] = [Value.slice q30' s30.length c30'] := e30
  injection e30' with e30' _
  injection e30' with f30 g30 k30
  subst f30; subst g30; subst k30
  exact ⟨⟨a0, a1, a2, a3, a4, a5, a6, a7, a8, ⟨a9, a10, a11, a12, a13, a14, a15, a16, a17, a18⟩, (q19, c19), s19, a20, a21, a22, a23, (q24, c24), s24, a25, a26, a27, (q28, c28), s28, (q29, c29), s29, (q30, c30), s30⟩, rfl, ⟨⟨m19, m24, m28, ⟨m29, fun e he => (p29 e he).m⟩, ⟨m30, fun e he => (p30 e he).m⟩, by have := b19.2; have := reach_lt; show s19.length ≤ _; omega⟩, ⟨⟨⟨wf_u8 w9, wf_u16 w10, wf_u32 w11, wf_u8 w12, wf_u8 w13, wf_u8 w14, wf_u8 w15, wf_u8 w16, wf_u8 w17, wf_u8 w18⟩, p19, fun p hp => (p24 p hp).n.1, fun p hp => (p28 p hp).n.1, in_map p29, in_map p30, wf_u8 w1, (wf_u32 w23).1, wf_u32 w4, wf_u8 w0, ⟨(wf_u32 w3).1, by have := (wf_u32 w3).2; show a3 < _; omega⟩, wf_u64 w7⟩, wf_u8 w2, wf_u32 w5, wf_u32 w6, wf_u64 w8, wf_u8 w20, wf_u8 w22, (wf_u32 w23).2, (wf_u32 w3).2, p24, p28, wf_u8 w25, wf_u16 w26⟩⟩⟩
end
end Go.Proofs.YtjphfelmaingjaaGreat
