import Derived.Test.YtkkhkkfnbohnaaaU11w
set_option linter.unusedVariables false
set_option linter.unusedSimpArgs false
set_option maxRecDepth 10000
namespace Go.Proofs
open Go X RowKit
/-! ### the plain law: who is heard by all decides -/
structure Jn (e : Fe) (top : Int) : Prop where
  n1 : 1 ≤ e.n
  n5 : e.n ≤ 5
  t : 0 ≤ top
  a : ∀ i, (e.a i).pr < bal (top + 1) 0
  p : ∀ i, balE (e.p i) < bal (top + 1) 0
theorem promE_bn {q : Pe} {p : Pr} {tl : List Ev} {acc : Int} {v : VE} {has : Bool} : (promE q p tl acc v has).bn = q.bn := by
  unfold promE; split
  · simp only; split <;> split <;> rfl
  · rfl
theorem propE_bn {q : Pe} {l : List Pr} : (propE q l).bn = q.bn := by unfold propE; split <;> rfl
theorem accE_bn {q : Pe} {p : Pr} : (accE q p).bn = q.bn := by
  unfold accE; split
  · split <;> rfl
  · rfl
theorem Jn.step {e : Fe} {top : Int} (h : Jn e top) (s : St) : Jn (stepE e s top).1 (stepE e s top).2 := by
  have ht := h.t
  have h5 := h.n5
  have hx := ix_lt h.n1 s.x
  have hup : ∀ (y : Nat) (z : Option Pe), balE z < bal (top + 1) 0 → ∀ i, balE (upd e.p y z i) < bal (top + 1) 0 := fun y z hz i => by
    unfold upd; split
    · exact hz
    · exact h.p i
  have hmap : ∀ (y : Nat) (g : Pe → Pe), (∀ q, (g q).bn = q.bn) → balE ((e.p y).map g) < bal (top + 1) 0 := fun y g hg => by
    have := h.p y
    cases hp : e.p y with
    | none => rw [hp] at this; exact this
    | some q => rw [hp] at this; show (g q).bn < _; rw [hg]; exact this
  have hua : ∀ (x : Nat) (z : Ae), z.pr < bal (top + 1) 0 → ∀ i, (upd e.a x z i).pr < bal (top + 1) 0 := fun y z hz i => by
    unfold upd; split
    · exact hz
    · exact h.a i
  unfold stepE
  split
  · refine ⟨h.n1, h.n5, by omega, fun i => by have := h.a i; show (e.a i).pr < _; unfold bal at *; omega, fun i => ?_⟩
    simp only [upd]
    split
    · unfold startP balE bal; simp only; omega
    · have := h.p i; unfold bal at *; omega
  · split
    · split
      · exact ⟨h.n1, h.n5, h.t, hua _ _ (h.p _), hup _ _ (hmap _ _ fun q => promE_bn)⟩
      · exact h
    · split
      · split
        · exact ⟨h.n1, h.n5, h.t, h.a, hup _ _ (hmap _ _ fun q => propE_bn)⟩
        · exact h
      · split
        · split
          · exact ⟨h.n1, h.n5, h.t, hua _ _ (h.p _), hup _ _ (hmap _ _ fun q => accE_bn)⟩
          · exact h
        · exact h
theorem ix_0 {n : Nat} : ix n 0 = 0 := by unfold ix; simp
theorem ix_i {n i : Nat} (h : i < n) : ix n (i : Int) = i := by unfold ix; rw [Int.emod_eq_of_lt (by omega) (by omega)]; simp
structure PI (n : Nat) (b : Int) (hl : Bool) (i : Nat) (e : Fe) : Prop where
  en : e.n = n
  pos : 0 < b
  q : ∃ q, e.p 0 = some q ∧ q.ms = procs n ∧ q.bn = b ∧ q.ph = 0 ∧ q.got = procs i ∧ q.tl.length = i - 1 ∧ (hl = false → q.held = none)
  pr : ∀ j, (e.a j).pr ≤ b
  ac : hl = false → ∀ j, j < n → (e.a j).ac = 0
theorem pi_start {e : Fe} {top : Int} (h : Jn e top) (hl : Bool) (ha : hl = false → ∀ j, j < e.n → (e.a j).ac = 0) : PI e.n (bal (top + 1) 0) hl 0 (stepE e ⟨0, 0, 0, 0, 0⟩ top).1 := by
  have ht := h.t
  simp only [stepE, beq_self_eq_true, if_true, ix_0]
  exact ⟨rfl, by unfold bal; omega, ⟨startP e.n (bal (top + 1) (0 : Nat)), upd_eq e.p 0 _, rfl, rfl, rfl, rfl, rfl, fun _ => rfl⟩, fun j => Int.le_of_lt (h.a j), ha⟩
theorem mem_procs {i n : Nat} : prc i ∈ procs n ↔ i < n := by
  simp only [procs, List.mem_map, List.mem_range]
  constructor
  · rintro ⟨j, hj, e⟩
    injection e; omega
  · exact fun h => ⟨i, h, rfl⟩
theorem procs_succ (i : Nat) : procs (i + 1) = procs i ++ [prc i] := by unfold procs; rw [List.range_succ, List.map_append]; rfl
theorem tailE_len (n : Nat) : (tailE n).length = n := by simp [tailE]
theorem pi_step {n : Nat} {b : Int} {hl : Bool} {i : Nat} {e : Fe} (h : PI n b hl i e) (hi : i < n) (top : Int) : PI n b hl (i + 1) (stepE e ⟨1, i, 0, 0, 0⟩ top).1 := by
  obtain ⟨q, hq, q1, q2, q3, q4, q5, q6⟩ := h.q
  have hp := h.pos
  have hpr := h.pr i
  have hb : prepB (e.a i) b = true := by unfold prepB; rw [if_neg (by omega)]
  have e1 : ((1 : Int) == 0) = false := rfl
  have e2 : ((1 : Int) == 1) = true := rfl
  simp only [stepE, e1, e2, if_true, if_false, Bool.false_eq_true, ix_0, h.en, ix_i hi, hq, balE, q2, hb, Option.map_some]
  have hc : countE q (prc i) 0 = true := by
    simp only [countE, q3, q1, q4, mem_procs, Bool.and_eq_true, decide_eq_true_eq, Bool.not_eq_true', decide_eq_false_iff_not]
    exact ⟨⟨trivial, hi⟩, by omega⟩
  have hd : hl = false → (e.a i).ac = 0 := fun h0 => h.ac h0 i hi
  generalize hv : (if (e.a i).ac = 0 then (([], []) : VE) else (e.a i).v) = v
  refine ⟨rfl, h.pos, ⟨promE q (prc i) (tailE i) (e.a i).ac v (decide ((e.a i).ac ≠ 0)), upd_eq e.p 0 _, ?_, promE_bn.trans q2, ?_, ?_, ?_, ?_⟩, fun j => ?_, fun h0 j hj => ?_⟩
  · unfold promE; rw [if_pos hc]; simp only; split <;> split <;> exact q1
  · unfold promE; rw [if_pos hc]; simp only; split <;> split <;> exact q3
  · rw [procs_succ, ← q4]; unfold promE; rw [if_pos hc]; simp only; split <;> split <;> rfl
  · unfold promE; rw [if_pos hc]; simp only [tailE_len]; split
    · simp only [tailE_len]; omega
    · split <;> simp only <;> omega
  · intro h0
    unfold promE; rw [if_pos hc, hd h0]; simp only [ne_eq, not_true_eq_false, decide_false, Bool.false_eq_true, false_and, if_false]
    split <;> exact q6 h0
  · simp only [upd]; split
    · exact Int.le_refl _
    · exact h.pr j
  · simp only [upd]; split
    · exact hd h0
    · exact h.ac h0 j hj
structure AI (n : Nat) (b : Int) (hl : Bool) (i : Nat) (e : Fe) : Prop where
  en : e.n = n
  pos : 0 < b
  q : ∃ q, e.p 0 = some q ∧ q.ms = procs n ∧ q.bn = b ∧ (hl = false → q.ch.1.length = 1 ∧ q.ch.2.length = n - 1) ∧ ((q.ph = 1 ∧ q.got = procs i ∧ i < n / 2 + 1) ∨ (q.ph = 2 ∧ n / 2 + 1 ≤ i))
  pr : ∀ j, (e.a j).pr ≤ b
  w : e.w 0 = true
theorem ai_prop {n : Nat} {b : Int} {hl : Bool} {e : Fe} (h : PI n b hl n e) (h1 : 1 ≤ n) (wish : Int) (top : Int) : AI n b hl 0 (stepE e ⟨2, 0, 0, wish, 0⟩ top).1 := by
  obtain ⟨q, hq, q1, q2, q3, q4, q5, q6⟩ := h.q
  have hr : readyE q = true := by
    simp only [readyE, enoughE, majE, q3, q4, q1, procs_len, Bool.and_eq_true, decide_eq_true_eq]
    exact ⟨trivial, by omega⟩
  have e1 : ((2 : Int) == 0) = false := rfl
  have e2 : ((2 : Int) == 1) = false := rfl
  have e3 : ((2 : Int) == 2) = true := rfl
  simp only [stepE, e1, e2, e3, if_true, if_false, Bool.false_eq_true, ix_0, hq, rdO, hr, Option.map_some]
  have hp : propE q [prc (ix 9 wish + 1)] = { q with ph := 1, got := [], ch := q.held.getD ([prc (ix 9 wish + 1)], q.tl) } := by rw [propE, if_pos hr]
  rw [hp]
  exact ⟨h.en, h.pos, ⟨_, upd_eq e.p 0 _, q1, q2, fun h0 => by show (q.held.getD _).1.length = 1 ∧ (q.held.getD _).2.length = n - 1; rw [q6 h0]; exact ⟨rfl, q5⟩, .inl ⟨rfl, rfl, by omega⟩⟩, h.pr, upd_eq e.w 0 true⟩
theorem ai_step {n : Nat} {b : Int} {hl : Bool} {i : Nat} {e : Fe} (h : AI n b hl i e) (hi : i < n) (top : Int) : AI n b hl (i + 1) (stepE e ⟨3, i, 0, 0, 0⟩ top).1 := by
  obtain ⟨q, hq, q1, q2, q3, q4⟩ := h.q
  have hp := h.pos
  have hpr := h.pr i
  have hb : prepB (e.a i) b = true := by unfold prepB; rw [if_neg (by omega)]
  have e1 : ((3 : Int) == 0) = false := rfl
  have e2 : ((3 : Int) == 1) = false := rfl
  have e3 : ((3 : Int) == 2) = false := rfl
  have e4 : ((3 : Int) == 3) = true := rfl
  simp only [stepE, e1, e2, e3, e4, if_true, if_false, Bool.false_eq_true, ix_0, h.en, ix_i hi, hq, balE, q2, hb, h.w, Bool.and_self, Option.map_some]
  refine ⟨rfl, h.pos, ⟨accE q (prc i), upd_eq e.p 0 _, ?_, accE_bn.trans q2, ?_, ?_⟩, fun j => ?_, h.w⟩
  · unfold accE; split
    · split <;> exact q1
    · exact q1
  · unfold accE; split
    · split <;> exact q3
    · exact q3
  · rcases q4 with ⟨p1, p2, p3⟩ | ⟨p1, p2⟩
    · have hc : countE q (prc i) 1 = true := by
        simp only [countE, p1, p2, q1, mem_procs, Bool.and_eq_true, decide_eq_true_eq, Bool.not_eq_true', decide_eq_false_iff_not]
        exact ⟨⟨trivial, hi⟩, by omega⟩
      rw [accE, if_pos hc]
      have hen : enoughE { q with got := q.got ++ [prc i] } = decide (n / 2 + 1 ≤ i + 1) := by
        have e : (((q.got ++ [prc i]).length : Nat) : Int) = ((i + 1 : Nat) : Int) := by rw [p2]; simp [procs_len]
        simp only [enoughE, majE, q1, procs_len, e]
        exact decide_eq_decide.2 (by omega)
      rw [hen]
      by_cases hg : n / 2 + 1 ≤ i + 1
      · rw [if_pos (by simpa using hg)]
        exact .inr ⟨rfl, hg⟩
      · rw [if_neg (by simpa using hg)]
        exact .inl ⟨p1, by rw [procs_succ, ← p2], by omega⟩
    · have hc : countE q (prc i) 1 = false := by simp [countE, p1]
      rw [accE, if_neg (by simp [hc])]
      exact .inr ⟨p1, by omega⟩
  · simp only [upd]; split
    · exact Int.le_refl _
    · exact h.pr j
theorem ai_end {n : Nat} {b : Int} {hl : Bool} {e : Fe} (h : AI n b hl n e) (h1 : 1 ≤ n) : ∃ q, e.p 0 = some q ∧ q.ph = 2 ∧ (hl = false → q.ch.1.length = 1 ∧ q.ch.2.length = n - 1) := by
  obtain ⟨q, hq, q1, q2, q3, q4⟩ := h.q
  refine ⟨q, hq, ?_, q3⟩
  rcases q4 with ⟨_, _, p3⟩ | ⟨p1, _⟩
  · omega
  · exact p1
end Go.Proofs
