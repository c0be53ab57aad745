import Derived.Test.YtkkhkkfnbohnaaaU11w
set_option linter.unusedVariables false
set_option linter.unusedSimpArgs false
set_option maxRecDepth 10000
namespace Go.Proofs
open Go X RowKit
/-! ### the plain law: what is decided is the same -/
theorem nd_len : ∀ (n : Nat) (l : List Nat), l.Nodup → (∀ i, i ∈ l → i < n) → l.length ≤ n
  | 0, l, _, h => by
    cases l with
    | nil => simp
    | cons a l => have := h a (by simp); omega
  | n + 1, l, hn, h => by
    have h1 := nd_len n (l.erase n) (hn.erase n) fun i hi => by
      have := (hn.mem_erase_iff).1 hi
      have h3 := h i this.2
      omega
    rw [List.length_erase] at h1
    split at h1 <;> omega
/-- a majority of n -/
structure Maj (n : Nat) (Q : List Nat) : Prop where
  nd : Q.Nodup
  lt : ∀ i, i ∈ Q → i < n
  len : n < 2 * Q.length
theorem Maj.meet {n : Nat} {Q R : List Nat} (h : Maj n Q) (k : Maj n R) : ∃ i, i ∈ Q ∧ i ∈ R := by
  by_cases hc : ∃ i, i ∈ Q ∧ i ∈ R
  · exact hc
  · exfalso
    have h1 : (Q ++ R).Nodup := List.nodup_append.2 ⟨h.nd, k.nd, fun a ha b hb e => hc ⟨a, ha, by rw [e]; exact hb⟩⟩
    have h2 := nd_len n (Q ++ R) h1 fun i hi => by
      rcases List.mem_append.1 hi with hi | hi
      · exact h.lt i hi
      · exact k.lt i hi
    have := h.len
    have := k.len
    rw [List.length_append] at h2
    omega
/-- a proposer whose promises are in -/
structure Held (prop : Int → Option VE) (vote : Nat → Int → Prop) (q : Pe) : Prop where
  no : q.held = none → ∀ j b, prc j ∈ q.got → vote j b → ¬ b < q.bn
  ys : ∀ v, q.held = some v → 0 < q.best ∧ q.best < q.bn ∧ prop q.best = some v ∧ ∀ j b, prc j ∈ q.got → vote j b → b < q.bn → b ≤ q.best
structure Pr1 (n : Nat) (top : Int) (i : Nat) (q : Pe) : Prop where
  ms : q.ms = procs n
  nd : q.got.Nodup
  got : ∀ p, p ∈ q.got → ∃ j, j < n ∧ p = prc j
  pos : 0 < q.bn
  lt : q.bn < bal (top + 1) 0
  md : q.bn % 256 = i
structure Pr2 (a : Nat → Ae) (prop : Int → Option VE) (vote : Nat → Int → Prop) (v : VE) (q : Pe) : Prop where
  ph : q.ph = 0 ∨ q.ph = 1 ∨ q.ph = 2
  z : q.ph = 0 → prop q.bn = none ∧ (∀ j, prc j ∈ q.got → q.bn ≤ (a j).pr) ∧ Held prop vote q
  o : q.ph ≠ 0 → prop q.bn = some q.ch ∧ v = q.ch ∧ ∀ j, prc j ∈ q.got → vote j q.bn
  d : q.ph = 2 → enoughE q = true
structure Safe (n : Nat) (a : Nat → Ae) (prop : Int → Option VE) (vote : Nat → Int → Prop) (b : Int) (v : VE) (Q : List Nat) : Prop where
  maj : Maj n Q
  pr : ∀ i, i ∈ Q → b ≤ (a i).pr
  or : (∀ i c, i ∈ Q → vote i c → ¬ c < b) ∨ ∃ c, 0 < c ∧ c < b ∧ prop c = some v ∧ ∀ i d, i ∈ Q → vote i d → d < b → d ≤ c
structure Inv (e : Fe) (top : Int) (prop : Int → Option VE) (vote : Nat → Int → Prop) : Prop where
  n1 : 1 ≤ e.n
  n5 : e.n ≤ 5
  t : 0 ≤ top
  a1 : ∀ i, 0 ≤ (e.a i).ac ∧ (e.a i).ac ≤ (e.a i).pr
  a2 : ∀ i, (e.a i).ac ≠ 0 → prop (e.a i).ac = some (e.a i).v
  a3 : ∀ i b, vote i b → b ≤ (e.a i).ac ∧ 0 < b
  fr : ∀ b v, prop b = some v → b < bal (top + 1) 0
  p1 : ∀ i q, i < e.n → e.p i = some q → Pr1 e.n top i q
  p2 : ∀ i q, i < e.n → e.p i = some q → Pr2 e.a prop vote (e.v i) q
  w1 : ∀ i, i < e.n → e.w i = true → ∃ q, e.p i = some q ∧ q.ph ≠ 0
  sf : ∀ b v, prop b = some v → ∃ Q, Safe e.n e.a prop vote b v Q
structure Chosen (n : Nat) (prop : Int → Option VE) (vote : Nat → Int → Prop) (b : Int) (v : VE) : Prop where
  p : prop b = some v
  q : ∃ Q, Maj n Q ∧ ∀ i, i ∈ Q → vote i b
theorem agree1 {e : Fe} {top : Int} {prop : Int → Option VE} {vote : Nat → Int → Prop} (h : Inv e top prop vote) {b1 : Int} {v1 : VE} (c1 : Chosen e.n prop vote b1 v1) :
    ∀ (k : Nat) (b2 : Int) (v2 : VE), b2.toNat ≤ k → prop b2 = some v2 → b1 < b2 → v2 = v1
  | k, b2, v2, hk, h2, hlt => by
    obtain ⟨Q1, m1, q1⟩ := c1.q
    obtain ⟨Q, s⟩ := h.sf b2 v2 h2
    obtain ⟨i, hi, hi1⟩ := s.maj.meet m1
    have hv := q1 i hi1
    rcases s.or with ho | ⟨c, hc0, hcb, hp, hd⟩
    · exact absurd hlt (ho i b1 hi hv)
    · have h3 := hd i b1 hi hv hlt
      by_cases he : b1 = c
      · rw [he] at c1
        have := c1.p
        rw [hp] at this
        exact Option.some.inj this
      · match k with
        | 0 => omega
        | k + 1 => exact agree1 h c1 k c v2 (by omega) hp (by omega)
theorem agree {e : Fe} {top : Int} {prop : Int → Option VE} {vote : Nat → Int → Prop} (h : Inv e top prop vote) {b1 b2 : Int} {v1 v2 : VE} (c1 : Chosen e.n prop vote b1 v1) (c2 : Chosen e.n prop vote b2 v2) : v1 = v2 := by
  by_cases e1 : b1 = b2
  · subst e1
    have := c1.p
    rw [c2.p] at this
    exact (Option.some.inj this).symm
  · by_cases e2 : b1 < b2
    · exact (agree1 h c1 _ b2 v2 (Nat.le_refl _) c2.p e2).symm
    · exact agree1 h c2 _ b1 v1 (Nat.le_refl _) c1.p (by omega)
/-- those who answered, by numbers -/
theorem got_nums : ∀ (l : List Pr) (n : Nat), (∀ p, p ∈ l → ∃ j, j < n ∧ p = prc j) → ∃ Q : List Nat, l = Q.map prc ∧ ∀ i, i ∈ Q → i < n
  | [], n, _ => ⟨[], rfl, by simp⟩
  | p :: l, n, h => by
    obtain ⟨Q, hQ, hl⟩ := got_nums l n fun p hp => h p (by simp [hp])
    obtain ⟨j, hj, rfl⟩ := h p (by simp)
    exact ⟨j :: Q, by rw [List.map_cons, hQ], fun i hi => by
      rcases List.mem_cons.1 hi with rfl | hi
      · exact hj
      · exact hl i hi⟩
theorem got_maj {n : Nat} {top : Int} {i : Nat} {q : Pe} (h : Pr1 n top i q) (he : enoughE q = true) : ∃ Q, Maj n Q ∧ ∀ i, i ∈ Q → prc i ∈ q.got := by
  obtain ⟨Q, hQ, hl⟩ := got_nums q.got n h.got
  have hnd := h.nd
  rw [hQ] at hnd
  refine ⟨Q, ⟨List.Pairwise.of_map prc (fun a b hab e => hab (by rw [e])) hnd, hl, ?_⟩, fun i hi => by rw [hQ]; exact List.mem_map.2 ⟨i, hi, rfl⟩⟩
  have h2 := congrArg List.length hQ
  rw [List.length_map] at h2
  simp only [enoughE, majE, decide_eq_true_eq, h.ms, procs_len] at he
  omega
theorem decided {e : Fe} {top : Int} {prop : Int → Option VE} {vote : Nat → Int → Prop} (h : Inv e top prop vote) {k : Nat} {q : Pe} (hk : k < e.n) (hq : e.p k = some q) (hp : q.ph = 2) : Chosen e.n prop vote q.bn q.ch ∧ e.v k = q.ch := by
  have h1 := h.p1 k q hk hq
  have h2 := h.p2 k q hk hq
  obtain ⟨o1, o2, o3⟩ := h2.o (by omega)
  obtain ⟨Q, m, hg⟩ := got_maj h1 (h2.d hp)
  exact ⟨⟨o1, Q, m, fun i hi => o3 i (hg i hi)⟩, o2⟩
theorem Held.mono {prop : Int → Option VE} {vote : Nat → Int → Prop} {prop' : Int → Option VE} {vote' : Nat → Int → Prop} {q : Pe} (h : Held prop vote q) (hp : ∀ b v, prop b = some v → prop' b = some v) (hv : ∀ j b, prc j ∈ q.got → vote' j b → b < q.bn → vote j b) : Held prop' vote' q :=
  ⟨fun h0 j b hj hb hlt => h.no h0 j b hj (hv j b hj hb hlt) hlt, fun v h0 => by
    obtain ⟨y1, y2, y3, y4⟩ := h.ys v h0
    exact ⟨y1, y2, hp _ _ y3, fun j b hj hb hlt => y4 j b hj (hv j b hj hb hlt) hlt⟩⟩
theorem prc_inj {i j : Nat} (h : prc i = prc j) : i = j := by injection h; omega
end Go.Proofs
