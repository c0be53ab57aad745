import Derived.Test.YtmfmihkjkgifiaaU10f
set_option linter.unusedVariables false
set_option linter.unusedSimpArgs false
set_option maxRecDepth 10000
namespace Go.Proofs
open Go X RowKit
/-! ### two ends: what is sent, what comes -/
abbrev Bys := List (List UInt8)
/-- who sends: S was sent, all from k on waits -/
structure Dir (first : Int) (x : Lk) (S : Bys) (k : Nat) : Prop where
  nx : x.next = first + (S.length : Int)
  len : k + x.W.length = S.length
  w32 : x.W.length ≤ 32
  row : ∀ i s, x.W[i]? = some s → s.seq = first + ((k + i : Nat) : Int) ∧ S[k + i]? = some s.b.bs
/-- who hears: of S, C came -/
structure Rec (first : Int) (y : Lk) (S C : Bys) : Prop where
  le : C.length ≤ S.length
  pre : ∀ i, i < C.length → C[i]? = S[i]?
  want : y.want = first + (C.length : Int)
  early : ∀ e ∈ y.E, ∃ j : Nat, e.1 = first + (j : Int) ∧ S[j]? = some e.2.bs
/-- a packet of one who sent S, and to whom C came -/
structure PkOK (first : Int) (S C : Bys) (p : Pa) : Prop where
  has : p.has = true → ∃ j : Nat, p.seq = first + (j : Int) ∧ S[j]? = some p.bs
  ack : ∃ a : Nat, p.ack = first + (a : Int) ∧ a ≤ C.length
theorem PkOK.mono {first : Int} {S C S' C' : Bys} {p : Pa} (h : PkOK first S C p) (hS : ∀ (j : Nat) b, S[j]? = some b → S'[j]? = some b) (hC : C.length ≤ C'.length) : PkOK first S' C' p :=
  ⟨fun hh => by obtain ⟨j, h1, h2⟩ := h.has hh; exact ⟨j, h1, hS _ _ h2⟩, by obtain ⟨a, h1, h2⟩ := h.ack; exact ⟨a, h1, by omega⟩⟩
theorem Rec.mono {first : Int} {y : Lk} {S S' C : Bys} (h : Rec first y S C) (hS : ∀ (j : Nat) b, S[j]? = some b → S'[j]? = some b) (hl : S.length ≤ S'.length) : Rec first y S' C := by
  refine ⟨by have := h.le; omega, fun i hi => ?_, h.want, fun e he => ?_⟩
  · have hlt : i < S.length := by have := h.le; omega
    rw [h.pre i hi, List.getElem?_eq_getElem hlt]
    exact (hS i _ (List.getElem?_eq_getElem hlt)).symm
  · obtain ⟨j, h1, h2⟩ := h.early e he; exact ⟨j, h1, hS _ _ h2⟩
/-- who an end is -/
def Fix (y z : Lk) : Prop := z.mn = y.mn ∧ z.ml = y.ml ∧ z.pn = y.pn ∧ z.pl = y.pl ∧ z.again = y.again
theorem Fix.refl (y : Lk) : Fix y y := ⟨rfl, rfl, rfl, rfl, rfl⟩
theorem ackN_row (first : Int) (a : Nat) : ∀ (W : List Sr) (k : Nat), (∀ i s, W[i]? = some s → s.seq = first + ((k + i : Nat) : Int)) → ackN (first + (a : Int)) W = min (a - k) W.length
  | [], k, _ => by simp [ackN]
  | s :: W, k, h => by
    have h0 := h 0 s rfl
    have ih := ackN_row first a W (k + 1) fun i t ht => by
      have := h (i + 1) t (by simpa using ht)
      rw [this]; omega
    unfold ackN
    rw [h0, ih]
    simp only [List.length_cons]
    split <;> omega
theorem acked_fix (x : Lk) (ack : Int) : Fix x (x.acked ack) ∧ (x.acked ack).next = x.next ∧ (x.acked ack).owed = x.owed := by
  unfold Lk.acked; split <;> exact ⟨Fix.refl _, rfl, rfl⟩
theorem Dir.acked {first : Int} {x : Lk} {S : Bys} {k : Nat} (h : Dir first x S k) (a : Nat) (ha : a ≤ S.length) : Dir first (x.acked (first + (a : Int))) S (max k a) := by
  have hn := ackN_row first a x.W k fun i s hs => (h.row i s hs).1
  have hl := h.len
  have he : x.acked (first + (a : Int)) = { x with W := x.W.drop (min (a - k) x.W.length) } := by
    rw [Lk.acked, if_neg (by rw [h.nx]; omega), hn]
  rw [he]
  refine ⟨h.nx, ?_, ?_, fun i s hs => ?_⟩
  · simp only [List.length_drop]; omega
  · simp only [List.length_drop]; have := h.w32; omega
  · simp only [List.getElem?_drop] at hs
    have := h.row _ s hs
    have e : max k a + i = k + (min (a - k) x.W.length + i) := by
      have : min (a - k) x.W.length + i < x.W.length := (List.getElem?_eq_some_iff.1 hs).1
      omega
    rw [e]; exact this
theorem w_u64s {first : Int} {c : Nat} (h0 : 0 ≤ first) (h : first + (c : Int) + 1 < 18446744073709551616) : IntKind.wrap .u64 (first + (c : Int) + 1) = first + ((c + 1 : Nat) : Int) := by
  rw [w_u64 (by omega) (by omega)]; omega
theorem comeF_ok {first : Int} {S : Bys} (h0 : 0 ≤ first) (hS : first + (S.length : Int) + 1 < 18446744073709551616) : ∀ (n c : Nat) (E : List (Int × Br)), c ≤ S.length → (∀ e ∈ E, ∃ j : Nat, e.1 = first + (j : Int) ∧ S[j]? = some e.2.bs) →
    (∀ i, i < (comeF n (first + (c : Int)) E).1.length → ((comeF n (first + (c : Int)) E).1.map Br.bs)[i]? = S[c + i]?) ∧ c + (comeF n (first + (c : Int)) E).1.length ≤ S.length ∧
      (comeF n (first + (c : Int)) E).2.1 = first + ((c + (comeF n (first + (c : Int)) E).1.length : Nat) : Int) ∧ (∀ e ∈ (comeF n (first + (c : Int)) E).2.2, e ∈ E) ∧ (comeF n (first + (c : Int)) E).1.length + (comeF n (first + (c : Int)) E).2.2.length ≤ E.length
  | 0, c, E, hc, hE => ⟨fun i hi => by simp [comeF] at hi, by simpa [comeF] using hc, by simp [comeF], by simp [comeF], by simp [comeF]⟩
  | n + 1, c, E, hc, hE => by
    unfold comeF
    cases hf : fnd (first + (c : Int)) E with
    | none => exact ⟨fun i hi => by simp at hi, by simpa using hc, by simp, by simp, by simp⟩
    | some b =>
      obtain ⟨j, hj, hb⟩ := hE _ (fnd_mem hf)
      have : j = c := by simp only at hj; omega
      subst this
      have hlt := (List.getElem?_eq_some_iff.1 hb).1
      have hw := w_u64s (c := j) h0 (by omega)
      obtain ⟨g1, g2, g3, g4, g5⟩ := comeF_ok h0 hS n (j + 1) (X.mdel (first + (j : Int)) E) (by omega) (fun e he => hE e (mem_del he))
      have hdl := fnd_del_len hf
      simp only [hw]
      refine ⟨fun i hi => ?_, ?_, ?_, fun e he => mem_del (g4 e he), ?_⟩
      · cases i with
        | zero => simpa using hb.symm
        | succ i =>
          simp only [List.length_cons] at hi
          simp only [List.map_cons, List.getElem?_cons_succ]
          rw [g1 i (by omega)]; congr 1; omega
      · simp only [List.length_cons]; omega
      · rw [g3]; simp only [List.length_cons]; omega
      · simp only [List.length_cons]; omega
theorem mput_len {β : Type} {x : Int} {v : β} : ∀ {l : List (Int × β)}, (X.mput x v l).length ≤ l.length + 1
  | [] => by simp [X.mput]
  | (k, u) :: l => by
    simp only [X.mput]
    split
    · simp
    · simp only [List.length_cons]; have := mput_len (x := x) (v := v) (l := l); omega
theorem mput_mem2 {β : Type} {x : Int} {v : β} {e : Int × β} : ∀ {l : List (Int × β)}, e ∈ X.mput x v l → e = (x, v) ∨ e ∈ l
  | [], h => by simp only [X.mput, List.mem_singleton] at h; exact .inl h
  | (k, u) :: l, h => by
    simp only [X.mput] at h
    split at h
    · rename_i hk
      rcases List.mem_cons.1 h with h | h
      · exact .inl (by rw [h, hk])
      · exact .inr (List.mem_cons_of_mem _ h)
    · rcases List.mem_cons.1 h with h | h
      · exact .inr (by rw [h]; exact List.mem_cons_self)
      · rcases mput_mem2 h with h | h
        · exact .inl h
        · exact .inr (List.mem_cons_of_mem _ h)
theorem Dir.congr {first : Int} {x y : Lk} {S : Bys} {k : Nat} (h : Dir first x S k) (hW : y.W = x.W) (hn : y.next = x.next) : Dir first y S k := ⟨by rw [hn]; exact h.nx, by rw [hW]; exact h.len, by rw [hW]; exact h.w32, by rw [hW]; exact h.row⟩
/-- what is heard -/
structure Heard (first : Int) (y z : Lk) (Sy Sx Cx Cy : Bys) (p : Pa) (ky : Nat) (l : List Br) (k : Nat) : Prop where
  dir : Dir first z Sy k
  rec_ : Rec first z Sx (Cy ++ l.map Br.bs)
  kk : ky ≤ k
  kC : k ≤ Cx.length
  ak : ∀ a : Nat, p.ack = first + (a : Int) → a ≤ k
  ow : p.has = true → z.owed = true
  new : p.has = true → p.seq = first + (Cy.length : Int) → 0 < l.length
  ll : l.length ≤ y.E.length + 1
  El : z.E.length ≤ y.E.length + 1
  fix : Fix y z
  old : ∀ s ∈ z.W, s ∈ y.W
theorem hear_ok {first : Int} {y : Lk} {Sy Cy Sx Cx : Bys} {ky : Nat} {p : Pk} {nb : Br} (h0 : 0 ≤ first) (hS : first + (Sx.length : Int) + 1 < 18446744073709551616) (hd : Dir first y Sy ky) (hr : Rec first y Sx Cy)
    (hk : ky ≤ Cx.length) (hc : Cx.length ≤ Sy.length) (hp : PkOK first Sx Cx p.er) (hm : y.mine p = true) (hnb : nb.bs = p.b.bs) :
    ∃ k, Heard first y (y.heard p nb).2 Sy Sx Cx Cy p.er ky (y.heard p nb).1 k := by
  obtain ⟨a, ha, hal⟩ := hp.ack
  have hack : p.ack = first + (a : Int) := ha
  have hD := hd.acked a (by omega)
  rw [← hack] at hD
  have haw := acked_want y p.ack
  have haE := acked_E y p.ack
  obtain ⟨hfx, hnx, how⟩ := acked_fix y p.ack
  have hold : ∀ s ∈ (y.acked p.ack).W, s ∈ y.W := fun s hs => acked_W y p.ack hs
  have hak : ∀ a' : Nat, p.er.ack = first + (a' : Int) → a' ≤ max ky a := fun a' h => by rw [ha] at h; omega
  -- nothing comes, E stands or has one more
  have nil : ∀ z : Lk, z.W = (y.acked p.ack).W → z.next = (y.acked p.ack).next → z.want = y.want → Fix y z → (∀ e ∈ z.E, ∃ j : Nat, e.1 = first + (j : Int) ∧ Sx[j]? = some e.2.bs) → z.E.length ≤ y.E.length + 1 → (p.has = true → z.owed = true) →
      (p.has = true → p.seq ≠ y.want) → Heard first y z Sy Sx Cx Cy p.er ky [] (max ky a) := fun z hW hn hw hf hE hEl ho hne =>
    ⟨hD.congr hW hn, by simp only [List.map_nil, List.append_nil]; exact ⟨hr.le, hr.pre, by rw [hw]; exact hr.want, hE⟩, by omega, by omega, hak, ho, fun h1 h2 => absurd (by rw [hr.want]; exact h2) (hne h1), by simp, hEl, hf, fun s hs => hold s (by rw [← hW]; exact hs)⟩
  rw [Lk.heard, if_neg (by rw [hm]; decide)]
  by_cases h1 : p.has = false
  · rw [if_pos h1]
    exact ⟨_, nil _ rfl rfl haw hfx (by rw [haE]; exact hr.early) (by rw [haE]; omega) (fun h => by rw [h1] at h; cases h) (fun h => by rw [h1] at h; cases h)⟩
  have h1' : p.has = true := by simpa using h1
  rw [if_neg h1]
  obtain ⟨j, hj, hb⟩ := hp.has h1'
  have hseq : p.seq = first + (j : Int) := hj
  have hbs : Sx[j]? = some nb.bs := by rw [hnb]; exact hb
  have hoW : (y.owes p.ack).W = (y.acked p.ack).W := rfl
  have how2 : (y.owes p.ack).owed = true := rfl
  have hofx : Fix y (y.owes p.ack) := hfx
  by_cases h2 : p.seq = y.want
  · rw [if_pos h2]
    have hjc : j = Cy.length := by rw [hr.want] at h2; omega
    subst hjc
    have hlt := (List.getElem?_eq_some_iff.1 hb).1
    have hwz : (y.owes p.ack).want = first + (Cy.length : Int) := by rw [← hr.want]; exact haw
    have hEz : ∀ e ∈ (y.owes p.ack).E, ∃ j : Nat, e.1 = first + (j : Int) ∧ Sx[j]? = some e.2.bs := by
      show ∀ e ∈ (y.acked p.ack).E, _; rw [haE]; exact hr.early
    have hzl : (y.owes p.ack).E.length = y.E.length := by show (y.acked p.ack).E.length = _; rw [haE]
    have hzW : (y.owes p.ack).came.W = (y.acked p.ack).W := rfl
    have hzf : Fix y (y.owes p.ack).came := hfx
    have hzo : (y.owes p.ack).came.owed = true := rfl
    have hzn : (y.owes p.ack).came.next = (y.acked p.ack).next := rfl
    obtain ⟨g1, g2, g3, g4, g5⟩ := comeF_ok h0 hS (y.owes p.ack).E.length (Cy.length + 1) (y.owes p.ack).E (by omega) hEz
    have hw1 : IntKind.wrap .u64 ((y.owes p.ack).want + 1) = first + ((Cy.length + 1 : Nat) : Int) := by rw [hwz]; exact w_u64s h0 (by omega)
    have hco : (y.owes p.ack).comes = (comeF (y.owes p.ack).E.length (first + ((Cy.length + 1 : Nat) : Int)) (y.owes p.ack).E).1 := by rw [Lk.comes, hw1]
    have hcw : (y.owes p.ack).came.want = (comeF (y.owes p.ack).E.length (first + ((Cy.length + 1 : Nat) : Int)) (y.owes p.ack).E).2.1 := by rw [Lk.came, hw1]
    have hcE : (y.owes p.ack).came.E = (comeF (y.owes p.ack).E.length (first + ((Cy.length + 1 : Nat) : Int)) (y.owes p.ack).E).2.2 := by rw [Lk.came, hw1]
    rw [← hco] at g1 g2 g3 g5
    rw [← hcw] at g3
    rw [← hcE] at g4 g5
    refine ⟨max ky a, hD.congr hzW hzn, ⟨?_, fun i hi => ?_, ?_, fun e he => hEz e (g4 e he)⟩, by omega, by omega, hak, fun _ => hzo, fun _ _ => by simp, by simp only [List.length_cons]; omega, by show (y.owes p.ack).came.E.length ≤ _; omega, hzf, fun s hs => hold s (by rw [← hzW]; exact hs)⟩
    · simp only [List.length_append, List.length_map, List.length_cons]; omega
    · simp only [List.length_append, List.length_map, List.length_cons] at hi
      by_cases hi1 : i < Cy.length
      · rw [List.getElem?_append_left hi1]; exact hr.pre i hi1
      · rw [List.getElem?_append_right (by omega)]
        by_cases hi2 : i = Cy.length
        · subst hi2
          rw [Nat.sub_self]; simpa using hbs.symm
        · have : i - Cy.length = (i - Cy.length - 1) + 1 := by omega
          rw [this, List.map_cons, List.getElem?_cons_succ, g1 _ (by omega)]
          congr 1; omega
    · rw [g3]; simp only [List.length_append, List.length_map, List.length_cons]; omega
  · rw [if_neg h2]
    by_cases h3 : (y.owes p.ack).keeps p = true
    · rw [if_pos h3]
      refine ⟨_, nil _ rfl rfl haw hofx (fun e he => ?_) ?_ (fun _ => rfl) (fun _ => h2)⟩
      · rcases mput_mem2 he with h | h
        · exact ⟨j, by rw [h]; exact hseq, by rw [h]; exact hbs⟩
        · exact hr.early e (by rw [← haE]; exact h)
      · have := mput_len (x := p.seq) (v := nb) (l := (y.owes p.ack).E)
        have h4 : (y.owes p.ack).E.length = y.E.length := by show (y.acked p.ack).E.length = _; rw [haE]
        simp only; omega
    · rw [if_neg h3]
      exact ⟨_, nil _ rfl rfl haw hofx (by show ∀ e ∈ (y.acked p.ack).E, _; rw [haE]; exact hr.early) (by show (y.acked p.ack).E.length ≤ _; rw [haE]; omega) (fun _ => rfl) (fun _ => h2)⟩
/-! ### what is told -/
theorem dues_mem {x : Lk} {now : Int} {i : Nat} {p : Pa} (h : p ∈ x.dues now i) : ∃ s, s ∈ x.W ∧ p = x.pk s := by
  obtain ⟨s, hs, rfl⟩ := List.mem_map.1 h
  exact ⟨s, List.mem_of_mem_take (List.mem_filter.1 hs).1, rfl⟩
theorem outs_ok {first : Int} {x : Lk} {Sx Cx Sy : Bys} {kx : Nat} (hd : Dir first x Sx kx) (hr : Rec first x Sy Cx) (now : Int) {p : Pa} (h : p ∈ x.outs now) :
    PkOK first Sx Cx p ∧ p.fn = x.mn ∧ p.fl = x.ml ∧ p.tn = x.pn ∧ p.tl = x.pl ∧ p.ack = first + (Cx.length : Int) := by
  have key : (∃ s, s ∈ x.W ∧ p = x.pk s) ∨ p = ⟨x.mn, x.ml, x.pn, x.pl, 0, x.want, false, []⟩ := by
    rw [Lk.outs] at h
    split at h
    · simp only [List.mem_singleton] at h; exact .inr h
    · exact .inl (dues_mem h)
  rcases key with ⟨s, hs, rfl⟩ | rfl
  · obtain ⟨i, hi, rfl⟩ := List.getElem_of_mem hs
    obtain ⟨h1, h2⟩ := hd.row i _ (List.getElem?_eq_getElem hi)
    exact ⟨⟨fun _ => ⟨kx + i, h1, h2⟩, ⟨Cx.length, hr.want, Nat.le_refl _⟩⟩, rfl, rfl, rfl, rfl, hr.want⟩
  · exact ⟨⟨(fun h => by cases h), ⟨Cx.length, hr.want, Nat.le_refl _⟩⟩, rfl, rfl, rfl, rfl, hr.want⟩
theorem outs_le (x : Lk) (now : Int) : (x.outs now).length ≤ 8 := by
  unfold Lk.outs
  split
  · simp
  · unfold Lk.dues
    rw [List.length_map]
    exact Nat.le_trans (List.length_filter_le ..) (by simp; omega)
theorem told_dir {first : Int} {x : Lk} {S : Bys} {k : Nat} (h : Dir first x S k) (now : Int) : Dir first (x.told now) S k := by
  refine ⟨h.nx, by rw [show (x.told now).W.length = x.W.length from Wi_len ..]; exact h.len, by rw [show (x.told now).W.length = x.W.length from Wi_len ..]; exact h.w32, fun i s hs => ?_⟩
  have hs' : (Wi (tellB x.again now) x.W 8)[i]? = some s := hs
  obtain ⟨hlt, _⟩ := List.getElem?_eq_some_iff.1 hs'
  rw [Wi_len] at hlt
  have hr := h.row i _ (List.getElem?_eq_getElem hlt)
  have e : s.seq = x.W[i].seq ∧ s.b = x.W[i].b := by
    have ht : ∀ t : Sr, (tellB x.again now t).seq = t.seq ∧ (tellB x.again now t).b = t.b := fun t => by unfold tellB; split <;> exact ⟨rfl, rfl⟩
    unfold Wi at hs'
    by_cases hi : i < 8
    · rw [List.getElem?_append_left (by simp; omega), List.getElem?_map, List.getElem?_take, if_pos hi, List.getElem?_eq_getElem hlt] at hs'
      simp only [Option.map_some, Option.some.injEq] at hs'
      rw [← hs']; exact ht _
    · rw [List.getElem?_append_right (by simp; omega), List.getElem?_drop] at hs'
      have : 8 + (i - ((x.W.take 8).map (tellB x.again now)).length) = i := by simp; omega
      rw [this, List.getElem?_eq_getElem hlt] at hs'
      simp only [Option.some.injEq] at hs'
      rw [← hs']; exact ⟨rfl, rfl⟩
  rw [e.1, e.2]; exact hr
/-- when each was told -/
def Told (now : Int) (x : Lk) : Prop := ∀ s ∈ x.W, 0 ≤ s.at_ ∧ s.at_ ≤ now
theorem Told.mono {now now' : Int} {x : Lk} (h : Told now x) (hn : now ≤ now') : Told now' x := fun s hs => ⟨(h s hs).1, by have := (h s hs).2; omega⟩
theorem told_told {now : Int} {x : Lk} (h : Told now x) (hn : 0 ≤ now) : Told now (x.told now) := fun s hs => by
  have hs' : s ∈ Wi (tellB x.again now) x.W 8 := hs
  rcases List.mem_append.1 hs' with h1 | h1
  · obtain ⟨t, ht, rfl⟩ := List.mem_map.1 h1
    have := h t (List.mem_of_mem_take ht)
    unfold tellB; split
    · exact ⟨hn, Int.le_refl _⟩
    · exact this
  · exact h s (List.mem_of_mem_drop h1)
theorem due_all {now again : Int} {s : Sr} (h0 : 0 ≤ s.at_) (h1 : s.at_ + again ≤ now) (ha : 0 ≤ again) (hn : now < 9223372036854775808) : dueB again now s = true := by
  unfold dueB
  rw [w_u64 (n := now) (by omega) (by omega), w_u64 (n := s.at_) (by omega) (by omega), w_u64 (n := again) ha (by omega), w_u64 (n := now - s.at_) (by omega) (by omega)]
  simp only [Bool.or_eq_true, Bool.and_eq_true, decide_eq_true_eq]
  right; constructor <;> omega
theorem outs_full {x : Lk} {now : Int} (h : ∀ s ∈ x.W, dueB x.again now s = true) : x.outs now = if x.W.isEmpty then (if x.owed then [⟨x.mn, x.ml, x.pn, x.pl, 0, x.want, false, []⟩] else []) else (x.W.take 8).map x.pk := by
  have e : x.dues now 8 = (x.W.take 8).map x.pk := by
    unfold Lk.dues
    rw [List.filter_eq_self.2 fun s hs => h s (List.mem_of_mem_take hs)]
  rw [Lk.outs, e]
  cases hW : x.W with
  | nil => cases x.owed <;> simp
  | cons s W => simp
end Go.Proofs
