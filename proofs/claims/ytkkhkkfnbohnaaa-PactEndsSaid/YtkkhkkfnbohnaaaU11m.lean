import Derived.Test.YtkkhkkfnbohnaaaU11l
set_option linter.unusedVariables false
set_option linter.unusedSimpArgs false
set_option maxRecDepth 10000
namespace Go.Proofs
open Go X RowKit
/-- one step of what was proposed and voted -/
def Grow (e e' : Fe) (top' : Int) (prop : Int → Option VE) (vote : Nat → Int → Prop) : Prop :=
  ∃ prop' vote', Inv e' top' prop' vote' ∧ (∀ b v, prop b = some v → prop' b = some v) ∧ (∀ i b, vote i b → vote' i b)
section
variable {e : Fe} {top : Int} {prop : Int → Option VE} {vote : Nat → Int → Prop}
theorem Grow.same (h : Inv e top prop vote) : Grow e e top prop vote := ⟨prop, vote, h, fun _ _ h => h, fun _ _ h => h⟩
theorem inv_start (h : Inv e top prop vote) {x : Nat} (hx : x < e.n) : Grow e { e with p := upd e.p x (some (startP e.n (bal (top + 1) (x : Nat)))), w := upd e.w x false } (top + 1) prop vote := by
  have ht := h.t
  have h5 := h.n5
  have hn : prop (bal (top + 1) (x : Nat)) = none := by
    cases hp : prop (bal (top + 1) (x : Nat)) with
    | none => rfl
    | some v => have := h.fr _ _ hp; unfold bal at this; omega
  refine ⟨prop, vote, ⟨h.n1, h.n5, by omega, h.a1, h.a2, h.a3, fun b v hb => by have := h.fr b v hb; unfold bal at *; omega, fun i q hi hq => ?_, fun i q hi hq => ?_, fun i hi hw => ?_, h.sf⟩, fun _ _ h => h, fun _ _ h => h⟩
  · simp only [upd] at hq
    split at hq
    · rename_i he; subst he
      injection hq with hq; subst hq
      exact ⟨rfl, by simp [startP], by simp [startP], by unfold startP bal; simp only; omega, by unfold startP bal; simp only; omega, by unfold startP bal; simp only; omega⟩
    · have := h.p1 i q hi hq
      exact ⟨this.ms, this.nd, this.got, this.pos, by have := this.lt; unfold bal at *; omega, this.md⟩
  · simp only [upd] at hq
    split at hq
    · rename_i he; subst he
      injection hq with hq; subst hq
      exact ⟨.inl rfl, fun _ => ⟨hn, by simp [startP], ⟨by simp [startP], by simp [startP]⟩⟩, fun h => absurd rfl h, fun h => by simp [startP] at h⟩
    · exact h.p2 i q hi hq
  · simp only [upd] at hw ⊢
    split at hw
    · cases hw
    · rename_i he
      rw [if_neg he]
      exact h.w1 i hi hw
/-- promises grow -/
theorem Safe.mono {n : Nat} {a a' : Nat → Ae} {b : Int} {v : VE} {Q : List Nat} (s : Safe n a prop vote b v Q) (ha : ∀ i, (a i).pr ≤ (a' i).pr) : Safe n a' prop vote b v Q :=
  ⟨s.maj, fun i hi => Int.le_trans (s.pr i hi) (ha i), s.or⟩
theorem prep_t {a : Ae} {n : Int} (h : prepB a n = true) : n ≠ 0 ∧ a.pr ≤ n := by
  unfold prepB at h; split at h
  · cases h
  · omega
theorem promE_no {q : Pe} {p : Pr} {tl : List Ev} {acc : Int} {v : VE} {has : Bool} (hc : countE q p 0 = false) : promE q p tl acc v has = q := by simp [promE, hc]
theorem promE_ys {q : Pe} {p : Pr} {tl : List Ev} {acc : Int} {v : VE} {has : Bool} (hc : countE q p 0 = true) : promE q p tl acc v has = { q with got := q.got ++ [p], tl := if tl.length > q.tl.length then tl else q.tl, best := if has = true ∧ (q.held = none ∨ acc > q.best) then acc else q.best, held := if has = true ∧ (q.held = none ∨ acc > q.best) then some v else q.held } := by
  unfold promE
  rw [if_pos hc]
  simp only
  split <;> split <;> rfl
theorem inv_prep (h : Inv e top prop vote) {x y : Nat} (hx : x < e.n) (hy : y < e.n) (hb : prepB (e.a x) (balE (e.p y)) = true) :
    Grow e { e with a := upd e.a x { e.a x with pr := balE (e.p y) }, p := upd e.p y ((e.p y).map fun q => promE q (prc x) (tailE x) (e.a x).ac (if (e.a x).ac = 0 then ([], []) else (e.a x).v) (decide ((e.a x).ac ≠ 0))) } top prop vote := by
  obtain ⟨hb0, hbp⟩ := prep_t hb
  clear hb
  have hle : ∀ i, (e.a i).pr ≤ (upd e.a x { e.a x with pr := balE (e.p y) } i).pr := fun i => by
    unfold upd; split
    · rename_i he; subst he; exact hbp
    · exact Int.le_refl _
  have hac : ∀ i, (upd e.a x { e.a x with pr := balE (e.p y) } i).ac = (e.a i).ac := fun i => by unfold upd; split; (rename_i he; subst he; rfl); rfl
  have hav : ∀ i, (upd e.a x { e.a x with pr := balE (e.p y) } i).v = (e.a i).v := fun i => by unfold upd; split; (rename_i he; subst he; rfl); rfl
  have ha1 := h.a1 x
  cases hpy : e.p y with
  | none => rw [hpy] at hb0; exact absurd rfl hb0
  | some q =>
  rw [hpy] at hb0 hbp hle hac hav
  simp only [balE, Option.map_some] at hb0 hbp hle hac hav ⊢
  have q1 := h.p1 y q hy hpy
  have q2 := h.p2 y q hy hpy
  refine ⟨prop, vote, ⟨h.n1, h.n5, h.t, fun i => by have h1 := h.a1 i; have h2 := hle i; show 0 ≤ (upd e.a x _ i).ac ∧ (upd e.a x _ i).ac ≤ (upd e.a x _ i).pr; rw [hac]; omega, fun i hi => by rw [hac] at hi ⊢; rw [hav]; exact h.a2 i hi, fun i b hb => by rw [hac]; exact h.a3 i b hb, h.fr, fun i r hi hr => ?_, fun i r hi hr => ?_, fun i hi hw => ?_, fun b v hb => ?_⟩, fun _ _ h => h, fun _ _ h => h⟩
  · simp only [upd] at hr
    split at hr
    · rename_i he; subst he
      injection hr with hr; subst hr
      cases hc : countE q (prc x) 0 with
      | true =>
        rw [promE_ys hc]
        simp only [countE, Bool.and_eq_true, decide_eq_true_eq, Bool.not_eq_true', decide_eq_false_iff_not] at hc
        have hnd : (q.got ++ [prc x]).Nodup := List.nodup_append.2 ⟨q1.nd, by simp, fun a ha b hb e => by simp at hb; subst hb; subst e; exact hc.2 ha⟩
        have hgt : ∀ p, p ∈ q.got ++ [prc x] → ∃ j, j < e.n ∧ p = prc j := fun p hp => by
          rcases List.mem_append.1 hp with hp | hp
          · exact q1.got p hp
          · simp at hp; exact ⟨x, hx, hp⟩
        exact ⟨q1.ms, hnd, hgt, q1.pos, q1.lt, q1.md⟩
      | false => rw [promE_no hc]; exact q1
    · exact h.p1 i r hi hr
  · have hkeep : ∀ {i r}, i < e.n → e.p i = some r → Pr2 (upd e.a x { e.a x with pr := q.bn }) prop vote (e.v i) r := fun {i r} hi hr => by
      have := h.p2 i r hi hr
      exact ⟨this.ph, fun h0 => ⟨(this.z h0).1, fun j hj => Int.le_trans ((this.z h0).2.1 j hj) (hle j), (this.z h0).2.2⟩, this.o, this.d⟩
    simp only [upd] at hr
    split at hr
    · rename_i he; subst he
      injection hr with hr; subst hr
      cases hc : countE q (prc x) 0 with
      | true =>
        rw [promE_ys hc]
        simp only [countE, Bool.and_eq_true, decide_eq_true_eq, Bool.not_eq_true', decide_eq_false_iff_not] at hc
        obtain ⟨⟨hph, hms⟩, hng⟩ := hc
        obtain ⟨z1, z2, z3⟩ := q2.z hph
        have hpr : ∀ j, prc j ∈ q.got ++ [prc x] → q.bn ≤ (upd e.a x { e.a x with pr := q.bn } j).pr := fun j hj => by
          rcases List.mem_append.1 hj with hj | hj
          · exact Int.le_trans (z2 j hj) (hle j)
          · simp only [List.mem_singleton] at hj
            have := prc_inj hj
            subst this
            rw [upd_eq]; exact Int.le_refl _
        have hlt : (e.a x).ac ≠ 0 → (e.a x).ac < q.bn := fun h0 => by
          have h2 := h.a2 x h0
          by_cases he : (e.a x).ac = q.bn
          · rw [he, z1] at h2; cases h2
          · omega
        have fin : ∀ (r : Pe), r.ph = q.ph → r.bn = q.bn → r.got = q.got ++ [prc x] → Held prop vote r → Pr2 (upd e.a x { e.a x with pr := q.bn }) prop vote (e.v i) r := fun r r1 r2 r3 r4 =>
          ⟨.inl (by rw [r1, hph]), fun _ => ⟨by rw [r2]; exact z1, fun j hj => by rw [r2]; rw [r3] at hj; exact hpr j hj, r4⟩, fun h0 => absurd (by rw [r1, hph]) h0, fun h0 => by rw [r1, hph] at h0; cases h0⟩
        have held1 : ∀ (r : Pe), r.bn = q.bn → r.got = q.got ++ [prc x] → (e.a x).ac ≠ 0 → (q.held = none ∨ (e.a x).ac > q.best) → r.held = some (e.a x).v → r.best = (e.a x).ac → Held prop vote r := fun r r2 r3 h0 ho r4 r5 =>
          ⟨fun hn => (by rw [r4] at hn; cases hn), fun v hv => by
            rw [r4] at hv; injection hv with hv; subst hv
            refine ⟨by rw [r5]; omega, by rw [r5, r2]; exact hlt h0, by rw [r5]; exact h.a2 x h0, fun j b hj hb hbl => ?_⟩
            rw [r5]; rw [r2] at hbl; rw [r3] at hj
            rcases List.mem_append.1 hj with hj | hj
            · cases hh : q.held with
              | none => exact absurd hbl (z3.no hh j b hj hb)
              | some u =>
                have := (z3.ys u hh).2.2.2 j b hj hb hbl
                rcases ho with ho | ho
                · rw [hh] at ho; cases ho
                · omega
            · simp only [List.mem_singleton] at hj
              have := prc_inj hj
              subst this
              exact (h.a3 j b hb).1⟩
        have held2 : ∀ (r : Pe), r.bn = q.bn → r.got = q.got ++ [prc x] → ¬ ((e.a x).ac ≠ 0 ∧ (q.held = none ∨ (e.a x).ac > q.best)) → r.held = q.held → r.best = q.best → Held prop vote r := fun r r2 r3 ho r4 r5 => by
          have hxv : ∀ b, vote x b → b ≤ (e.a x).ac ∧ 0 < b := h.a3 x
          refine ⟨fun hn j b hj hb hbl => ?_, fun v hv => ?_⟩
          · rw [r4] at hn; rw [r2] at hbl; rw [r3] at hj
            rcases List.mem_append.1 hj with hj | hj
            · exact z3.no hn j b hj hb hbl
            · simp only [List.mem_singleton] at hj
              have := prc_inj hj
              subst this
              have := hxv b hb
              by_cases h0 : (e.a j).ac = 0
              · omega
              · exact ho ⟨h0, .inl hn⟩
          · rw [r4] at hv
            obtain ⟨y1, y2, y3, y4⟩ := z3.ys v hv
            refine ⟨by rw [r5]; exact y1, by rw [r5, r2]; exact y2, by rw [r5]; exact y3, fun j b hj hb hbl => ?_⟩
            rw [r5]; rw [r2] at hbl; rw [r3] at hj
            rcases List.mem_append.1 hj with hj | hj
            · exact y4 j b hj hb hbl
            · simp only [List.mem_singleton] at hj
              have := prc_inj hj
              subst this
              have := hxv b hb
              by_cases h0 : (e.a j).ac = 0
              · omega
              · have : ¬ (e.a j).ac > q.best := fun hg => ho ⟨h0, .inr hg⟩
                omega
        by_cases hc2 : (e.a x).ac ≠ 0 ∧ (q.held = none ∨ (e.a x).ac > q.best)
        · simp only [show (decide ((e.a x).ac ≠ 0) = true ∧ (q.held = none ∨ (e.a x).ac > q.best)) = True from eq_true (by simpa using hc2), if_true, if_neg hc2.1]
          exact fin _ rfl rfl rfl (held1 _ rfl rfl hc2.1 hc2.2 rfl rfl)
        · simp only [show (decide ((e.a x).ac ≠ 0) = true ∧ (q.held = none ∨ (e.a x).ac > q.best)) = False from eq_false (by simpa using hc2), if_false]
          exact fin _ rfl rfl rfl (held2 _ rfl rfl hc2 rfl rfl)
      | false => rw [promE_no hc]; exact hkeep hy hpy
    · exact hkeep hi hr
  · obtain ⟨r, hr, hp⟩ := h.w1 i hi hw
    simp only [upd]
    split
    · rename_i he; subst he
      rw [hpy] at hr
      injection hr with hr; subst hr
      refine ⟨_, rfl, ?_⟩
      have : countE q (prc x) 0 = false := by simp [countE, hp]
      rw [promE_no this]
      exact hp
    · exact ⟨r, hr, hp⟩
  · obtain ⟨Q, s⟩ := h.sf b v hb
    exact ⟨Q, s.mono hle⟩
theorem inv_prop (h : Inv e top prop vote) {x : Nat} (hx : x < e.n) (wish : List Pr) (hr : rdO (e.p x) = true) :
    Grow e { e with p := upd e.p x ((e.p x).map fun q => propE q wish), v := upd e.v x (chO ((e.p x).map fun q => propE q wish)), w := upd e.w x true } top prop vote := by
  cases hpx : e.p x with
  | none => rw [hpx] at hr; cases hr
  | some q =>
  rw [hpx] at hr
  have hr : readyE q = true := hr
  have hr2 := hr
  simp only [readyE, Bool.and_eq_true, decide_eq_true_eq] at hr2
  obtain ⟨hph, hen⟩ := hr2
  have q1 := h.p1 x q hx hpx
  have q2 := h.p2 x q hx hpx
  obtain ⟨z1, z2, z3⟩ := q2.z hph
  have hq' : propE q wish = { q with ph := 1, got := [], ch := q.held.getD (wish, q.tl) } := by rw [propE, if_pos hr]
  simp only [Option.map_some, chO, hq']
  generalize hch : q.held.getD (wish, q.tl) = ch at *
  have hne : ∀ {i r}, i < e.n → e.p i = some r → i ≠ x → r.bn ≠ q.bn := fun {i r} hi hr hix he => by
    have h1 := (h.p1 i r hi hr).md
    have h2 := q1.md
    rw [he, h2] at h1
    omega
  have hg : ∀ b v, prop b = some v → (if b = q.bn then some ch else prop b) = some v := fun b v hb => by
    by_cases he : b = q.bn
    · rw [he, z1] at hb; cases hb
    · rw [if_neg he]; exact hb
  refine ⟨fun b => if b = q.bn then some ch else prop b, vote, ⟨h.n1, h.n5, h.t, h.a1, fun i hi => hg _ _ (h.a2 i hi), h.a3, fun b v hb => ?_, fun i r hi hr => ?_, fun i r hi hr => ?_, fun i hi hw => ?_, fun b v hb => ?_⟩, hg, fun _ _ h => h⟩
  · by_cases he : b = q.bn
    · rw [he]; exact q1.lt
    · simp only [if_neg he] at hb; exact h.fr b v hb
  · simp only [upd] at hr
    split at hr
    · rename_i he; subst he
      injection hr with hr; subst hr
      exact ⟨q1.ms, by simp, by simp, q1.pos, q1.lt, q1.md⟩
    · exact h.p1 i r hi hr
  · simp only [upd] at hr ⊢
    split at hr
    · rename_i he; subst he
      injection hr with hr; subst hr
      refine ⟨.inr (.inl rfl), fun h0 => by simp at h0, fun _ => ⟨by simp, by simp, by simp⟩, fun h0 => by simp at h0⟩
    · rename_i he
      rw [if_neg he]
      have k := h.p2 i r hi hr
      have hb := hne hi hr he
      exact ⟨k.ph, fun h0 => ⟨by rw [if_neg hb]; exact (k.z h0).1, (k.z h0).2.1, (k.z h0).2.2.mono hg fun _ _ _ h _ => h⟩, fun h0 => ⟨by rw [if_neg hb]; exact (k.o h0).1, (k.o h0).2⟩, k.d⟩
  · simp only [upd] at hw ⊢
    split
    · exact ⟨_, rfl, by simp⟩
    · rename_i he
      rw [if_neg he] at hw
      exact h.w1 i hi hw
  · have old : ∀ b v, prop b = some v → ∃ Q, Safe e.n e.a (fun b => if b = q.bn then some ch else prop b) vote b v Q := fun b v hb => by
      obtain ⟨Q, s⟩ := h.sf b v hb
      refine ⟨Q, s.maj, s.pr, ?_⟩
      rcases s.or with ho | ⟨c, c1, c2, c3, c4⟩
      · exact .inl ho
      · exact .inr ⟨c, c1, c2, hg _ _ c3, c4⟩
    by_cases he : b = q.bn
    · simp only [if_pos he] at hb
      injection hb with hb; subst hb; subst he
      obtain ⟨Q, hm, hgt⟩ := got_maj q1 hen
      refine ⟨Q, hm, fun i hi => z2 i (hgt i hi), ?_⟩
      cases hh : q.held with
      | none => exact .inl fun i c hi hv => z3.no hh i c (hgt i hi) hv
      | some u =>
        rw [hh] at hch
        have hch : u = ch := hch
        subst hch
        obtain ⟨y1, y2, y3, y4⟩ := z3.ys u hh
        exact .inr ⟨q.best, y1, y2, hg _ _ y3, fun i d hi hv hd => y4 i d (hgt i hi) hv hd⟩
    · simp only [if_neg he] at hb; exact old b v hb
theorem inv_acc (h : Inv e top prop vote) {x y : Nat} (hx : x < e.n) (hy : y < e.n) (hb : (e.w y && prepB (e.a x) (balE (e.p y))) = true) :
    Grow e { e with a := upd e.a x ⟨balE (e.p y), balE (e.p y), e.v y⟩, p := upd e.p y ((e.p y).map fun q => accE q (prc x)) } top prop vote := by
  rw [Bool.and_eq_true] at hb
  obtain ⟨q, hpy, hqp⟩ := h.w1 y hy hb.1
  obtain ⟨hb0, hbp⟩ := prep_t hb.2
  rw [hpy] at hb0 hbp
  simp only [hpy, balE, Option.map_some] at hb0 hbp ⊢
  have q1 := h.p1 y q hy hpy
  have q2 := h.p2 y q hy hpy
  obtain ⟨o1, o2, o3⟩ := q2.o hqp
  have ha1 := h.a1 x
  have hle : ∀ i, (e.a i).pr ≤ (upd e.a x ⟨q.bn, q.bn, e.v y⟩ i).pr := fun i => by
    unfold upd; split
    · rename_i he; subst he; exact hbp
    · exact Int.le_refl _
  refine ⟨prop, fun i b => vote i b ∨ (i = x ∧ b = q.bn), ⟨h.n1, h.n5, h.t, fun i => ?_, fun i hi => ?_, fun i b hv => ?_, h.fr, fun i r hi hr => ?_, fun i r hi hr => ?_, fun i hi hw => ?_, fun b v hb => ?_⟩, fun _ _ h => h, fun _ _ h => .inl h⟩
  · simp only [upd]; split
    · have := q1.pos; simp only; omega
    · exact h.a1 i
  · simp only [upd] at hi ⊢
    split
    · simp only; rw [o2]; exact o1
    · rename_i he; rw [if_neg he] at hi; exact h.a2 i hi
  · simp only [upd]
    split
    · rename_i he; subst he
      rcases hv with hv | ⟨_, hv⟩
      · have := h.a3 i b hv
        exact ⟨by simp only; omega, this.2⟩
      · subst hv; exact ⟨Int.le_refl _, q1.pos⟩
    · rename_i he
      rcases hv with hv | ⟨hv, _⟩
      · exact h.a3 i b hv
      · exact absurd hv he
  · simp only [upd] at hr
    split at hr
    · rename_i he; subst he
      injection hr with hr; subst hr
      unfold accE
      split
      · rename_i hc
        simp only [countE, Bool.and_eq_true, decide_eq_true_eq, Bool.not_eq_true', decide_eq_false_iff_not] at hc
        have hnd : (q.got ++ [prc x]).Nodup := List.nodup_append.2 ⟨q1.nd, by simp, fun a ha b hb e => by simp at hb; subst hb; subst e; exact hc.2 ha⟩
        have hgt : ∀ p, p ∈ q.got ++ [prc x] → ∃ j, j < e.n ∧ p = prc j := fun p hp => by
          rcases List.mem_append.1 hp with hp | hp
          · exact q1.got p hp
          · simp at hp; exact ⟨x, hx, hp⟩
        split <;> exact ⟨q1.ms, hnd, hgt, q1.pos, q1.lt, q1.md⟩
      · exact q1
    · exact h.p1 i r hi hr
  · have hkeep : ∀ {i r}, i < e.n → e.p i = some r → Pr2 (upd e.a x ⟨q.bn, q.bn, e.v y⟩) prop (fun i b => vote i b ∨ (i = x ∧ b = q.bn)) (e.v i) r := fun {i r} hi hr => by
      have k := h.p2 i r hi hr
      refine ⟨k.ph, fun h0 => ⟨(k.z h0).1, fun j hj => Int.le_trans ((k.z h0).2.1 j hj) (hle j), (k.z h0).2.2.mono (fun _ _ h => h) fun j b hj hv hlt => ?_⟩, fun h0 => ⟨(k.o h0).1, (k.o h0).2.1, fun j hj => .inl ((k.o h0).2.2 j hj)⟩, k.d⟩
      rcases hv with hv | ⟨rfl, rfl⟩
      · exact hv
      · have := (k.z h0).2.1 j hj
        omega
    simp only [upd] at hr
    split at hr
    · rename_i he; subst he
      injection hr with hr; subst hr
      unfold accE
      split
      · rename_i hc
        simp only [countE, Bool.and_eq_true, decide_eq_true_eq, Bool.not_eq_true', decide_eq_false_iff_not] at hc
        have hv : ∀ j, prc j ∈ q.got ++ [prc x] → vote j q.bn ∨ (j = x ∧ q.bn = q.bn) := fun j hj => by
          rcases List.mem_append.1 hj with hj | hj
          · exact .inl (o3 j hj)
          · simp only [List.mem_singleton] at hj
            exact .inr ⟨prc_inj hj, rfl⟩
        split
        · rename_i hen
          exact ⟨.inr (.inr rfl), fun h0 => by simp at h0, fun _ => ⟨o1, o2, hv⟩, fun _ => hen⟩
        · exact ⟨.inr (.inl hc.1.1), fun h0 => by simp only at h0; rw [h0] at hc; simp at hc, fun _ => ⟨o1, o2, hv⟩, fun h0 => by simp only at h0; rw [h0] at hc; simp at hc⟩
      · exact hkeep hy hpy
    · exact hkeep hi hr
  · obtain ⟨r, hr, hp⟩ := h.w1 i hi hw
    simp only [upd]
    split
    · rename_i he; subst he
      rw [hpy] at hr
      injection hr with hr; subst hr
      refine ⟨_, rfl, ?_⟩
      unfold accE
      split
      · split
        · simp
        · exact hp
      · exact hp
    · exact ⟨r, hr, hp⟩
  · obtain ⟨Q, s⟩ := h.sf b v hb
    refine ⟨Q, s.maj, fun i hi => Int.le_trans (s.pr i hi) (hle i), ?_⟩
    have new : ∀ i d, i ∈ Q → (vote i d ∨ (i = x ∧ d = q.bn)) → d < b → vote i d := fun i d hi hv hd => by
      rcases hv with hv | ⟨rfl, rfl⟩
      · exact hv
      · have := s.pr i hi; omega
    rcases s.or with ho | ⟨c, c1, c2, c3, c4⟩
    · exact .inl fun i c hi hv hc => ho i c hi (new i c hi hv hc) hc
    · exact .inr ⟨c, c1, c2, c3, fun i d hi hv hd => c4 i d hi (new i d hi hv hd) hd⟩
theorem inv_step (h : Inv e top prop vote) (s : St) : Grow e (stepE e s top).1 (stepE e s top).2 prop vote := by
  have hx := ix_lt h.n1 s.x
  have hy := ix_lt h.n1 s.y
  unfold stepE
  split
  · exact inv_start h hx
  · split
    · split
      · rename_i hb; exact inv_prep h hx hy hb
      · exact Grow.same h
    · split
      · split
        · rename_i hr; exact inv_prop h hx _ hr
        · exact Grow.same h
      · split
        · split
          · rename_i hb; exact inv_acc h hx hy hb
          · exact Grow.same h
        · exact Grow.same h
end
end Go.Proofs
