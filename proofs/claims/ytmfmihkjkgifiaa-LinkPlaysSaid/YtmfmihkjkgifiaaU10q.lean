import Derived.Test.YtmfmihkjkgifiaaU10p
import Derived.Test.YtmfmihkjkgifiaaU10k
set_option linter.unusedVariables false
set_option linter.unusedSimpArgs false
set_option maxRecDepth 10000
namespace Go.Proofs
open Go X RowKit
/-! ### what came early, taken out -/
theorem fnd_at {β : Type} {x : Int} : ∀ {E : List (Int × β)} {i : Nat} (hi : i < E.length), (∀ (j : Nat) (hj : j < E.length), j < i → E[j].1 ≠ x) → E[i].1 = x → fnd x E = some E[i].2 ∧ X.mdel x E = E.take i ++ E.drop (i + 1)
  | e :: E, 0, hi, h, he => by
    simp only [List.getElem_cons_zero] at he
    simp [fnd, X.mdel, he]
  | e :: E, i + 1, hi, h, he => by
    have h0 := h 0 (by simp) (by omega)
    simp only [List.getElem_cons_zero] at h0
    have h0' : ¬ x = e.1 := fun h => h0 h.symm
    simp only [List.getElem_cons_succ] at he ⊢
    obtain ⟨g1, g2⟩ := fnd_at (E := E) (i := i) (by simpa using hi) (fun j hj hlt => by have := h (j + 1) (by simpa using hj) (by omega); simpa using this) he
    obtain ⟨k, u⟩ := e
    simp only at h0'
    simp only [fnd, X.mdel, if_neg h0', g1, g2]
    simp
theorem fnd_no {β : Type} {x : Int} : ∀ {E : List (Int × β)}, (∀ (j : Nat) (hj : j < E.length), E[j].1 ≠ x) → fnd x E = none ∧ X.mdel x E = E
  | [], _ => ⟨rfl, rfl⟩
  | (k, u) :: E, h => by
    have h0 := h 0 (by simp)
    simp only [List.getElem_cons_zero] at h0
    have h0' : ¬ x = k := fun h => h0 h.symm
    obtain ⟨g1, g2⟩ := fnd_no (E := E) (fun j hj => by have := h (j + 1) (by simpa using hj); simpa using this)
    simp [fnd, X.mdel, if_neg h0', g1, g2]
def keptR (n : Int) (E : List (Int × Br)) : Value := match fnd n E with
  | none => .tuple #[.slice none 0 0, .bool false]
  | some v => .tuple #[v.V, .bool true]
theorem c_rkept (b : Nat) (x : Lk) (n : Int) (hE : x.E.length ≤ 1000000) :
    Ctr Try.prog 36 #[.pointer (some ⟨b, 0, none⟩), .int .u64 n] noMem [rlA b x] (fun _ : Unit => keptR n x.E) (fun _ _ => True) (fun _ => [rlA b { x with E := X.mdel n x.E }]) := by
  refine Ctr.mk fun w F m C _ => x_gemotref10_Link_kept _ n w _ ?_
  obtain ⟨p, q, C⟩ := rlO C
  refine ⟨fun i w' _ => ∃ j : Nat, i = j ∧ j ≤ x.E.length ∧ (∀ (k : Nat) (hk : k < x.E.length), k < j → x.E[k].1 ≠ n) ∧ Ctx F m w w' [] m (rlAs b x p q ++ []), fun i _ => (x.E.length - i).toNat, ⟨0, rfl, by omega, fun k _ h => by omega, C⟩, ?_⟩
  rintro i w4 L5 _ ⟨j, rfl, hj, hno, D⟩
  have hcell : w4.cell? ((⟨b, 0, none⟩ : Addr).add 8) = some (slV q x.E.length) := by rw [Addr.add_mid]; exact D.blkCell (j := 8) rfl
  refine ⟨q.1, x.E.length, q.2, hcell, ?_⟩
  by_cases h1 : j < x.E.length
  · rw [if_pos (by simpa using h1)]
    have DK := D.pm [2, 0, 1] rfl
    simp only [sel, nth, List.append_nil, List.cons_append, List.nil_append] at DK
    have hrl : (x.E.flatMap krow).length = x.E.length * 2 := flat_len krow_len _
    obtain ⟨pa, hpa⟩ := slice_some DK (by intro h; rw [h] at hrl; simp at hrl; omega)
    have hce := cells_elem krow_len (DK.slCells.1 pa hpa).1 j h1
    refine ⟨q.1, x.E.length, q.2, hcell, by omega, by omega, ?_⟩
    rw [hpa, onSome_some]
    refine ⟨x.E[j].1, hce 0 _ rfl, ?_⟩
    have e : IntKind.wrap .i64 ((j : Int) + 1) = ((j + 1 : Nat) : Int) := by rw [w_i64 (by omega) (by omega)]; omega
    by_cases h2 : x.E[j].1 = n
    · rw [if_pos (by simpa using h2)]
      obtain ⟨g1, g2⟩ := fnd_at h1 hno h2
      refine ⟨q.1, x.E.length, q.2, hcell, by omega, by omega, ?_⟩
      rw [hpa, onSome_some]
      refine ⟨x.E[j].2.q, x.E[j].2.bs.length, x.E[j].2.c, hce 1 _ rfl, ?_⟩
      have hf : ∀ {w' L'} {As' : List Asn}, Ctx F m w w' L' m (blk b (x.row (slV p x.W.length) (slV q x.E.length)) 60 :: As') → FactsW [(⟨b, 8, none⟩, [slV q x.E.length])] w' L' := fun D => D.blkFact1 8 _ rfl (facts_nil _ _)
      have hcap := DK.slCap
      rw [e]
      refine ⟨_, hf D, q.1, x.E.length, q.2, by simp [Addr.add_mid, slV], by omega, by omega, q.1, x.E.length, q.2, by simp [Addr.add_mid, slV], by omega, by omega, fun w28 h28 => ?_⟩
      have D1 := (DK.hid0 h28).slNew (cs := []) (n := 0) (ty := 96) (sz := 2) rfl (by simp [maxLen])
      refine ⟨hf (D1.pm [2, 0, 1, 3] rfl), ?_⟩
      rw [Int.toNat_natCast, Int.toNat_natCast]
      have hsub1 := slSub D1.swap 0 j q.2 (by omega)
      have e1 : ((x.E.flatMap krow).drop (0 * 2)).take (j * 2) = (x.E.take j).flatMap krow := by
        rw [Nat.zero_mul, List.drop_zero]; exact flat_take krow_len _ _
      rw [e1] at hsub1
      obtain ⟨q35, c36, w38, hr, hkk, D2⟩ := D1.app (P := Try.prog) (bytes := 64) (t := 58) (t2 := 58) 58 (by kernel_rfl) hsub1 (by omega) (flat_one krow_one _)
      rw [Nat.zero_add] at hr D2
      refine ⟨q35, j, c36, w38, hr, hkk.size, hf (D2.pm [2, 0, 1, 3] rfl), ?_⟩
      have hsub2 := slSub D2.swap (j + 1) (x.E.length - (j + 1)) (q.2 - (j + 1)) (by omega)
      have e2 : ((x.E.flatMap krow).drop ((j + 1) * 2)).take ((x.E.length - (j + 1)) * 2) = (x.E.drop (j + 1)).flatMap krow := by
        rw [flat_drop krow_len, List.take_of_length_le]
        rw [flat_len krow_len, List.length_drop]
        exact Nat.le_refl _
      rw [e2] at hsub2
      obtain ⟨q39, c41, w42, hr2, hkk2, D3⟩ := D2.app (P := Try.prog) (bytes := 64) (t := 58) (t2 := 58) 58 (by kernel_rfl) hsub2 (by omega) (flat_one krow_one _)
      have D4 := D3.pk [2, 3, 0] [1] rfl
      simp only [sel, nth] at D4
      refine ⟨q39, _, c41, w42, hr2, hkk2.size, hf D4, rfl, D4.there 8 1 (by simp), ?_⟩
      have D5 := D4.store 8 [.slice q39 (j + (x.E.length - (j + 1))) c41] (by simp)
      refine ⟨(), m, [], by rw [keptR, g1], trivial, ?_⟩
      rw [g2]
      refine rlI p (q39, c41) ?_
      have el : (x.E.take j ++ x.E.drop (j + 1)).length = j + (x.E.length - (j + 1)) := by simp; omega
      have ef : (x.E.take j ++ x.E.drop (j + 1)).flatMap krow = [] ++ (x.E.take j).flatMap krow ++ (x.E.drop (j + 1)).flatMap krow := by simp
      simp only [rlAs, keptA]
      rw [el, ef]
      exact D5
    · rw [if_neg (by simpa using h2), e]
      refine ⟨⟨j + 1, rfl, h1, fun k hk hlt => ?_, D.noL⟩, Nat.le_of_eq (by show ((x.E.length : Int) - ((j + 1 : Nat) : Int)).toNat + 1 = ((x.E.length : Int) - (j : Int)).toNat; omega)⟩
      by_cases hkj : k = j
      · subst hkj; exact h2
      · exact hno k hk (by omega)
  · rw [if_neg (by simpa using h1)]
    obtain ⟨g1, g2⟩ := fnd_no (x := n) (E := x.E) (fun k hk => hno k hk (by omega))
    refine ⟨(), m, [], by rw [keptR, g1], trivial, ?_⟩
    rw [g2]
    exact rlI p q D.noL
/-! ### numbers of what came early -/
structure InvE (x : Lk) : Prop where
  w0 : 0 ≤ x.want
  w1 : x.want < 18446744073709551616
  win : ∀ e ∈ x.E, x.want < e.1 ∧ e.1 < x.want + 8 ∧ e.1 < 18446744073709551616
  nd : (x.E.map (·.1)).Nodup
theorem nodup_bound : ∀ (n : Nat) (l : List Nat), l.Nodup → (∀ x ∈ l, x < n) → l.length ≤ n
  | 0, l, _, h => by cases l with
    | nil => simp
    | cons a l => have := h a (by simp); omega
  | n + 1, l, hn, h => by
    by_cases hm : n ∈ l
    · have h1 := nodup_bound n (l.erase n) (hn.erase n) (fun x hx => by
        have h2 := (hn.mem_erase_iff).1 hx
        have := h x h2.2; have := h2.1; omega)
      have := List.length_erase_of_mem hm
      omega
    · have := nodup_bound n l hn (fun x hx => by
        have := h x hx
        have : x ≠ n := fun e => hm (e ▸ hx)
        omega)
      omega
theorem InvE.len {x : Lk} (h : InvE x) : x.E.length ≤ 8 := by
  have := nodup_bound 8 (x.E.map fun e => (e.1 - x.want).toNat) (by
    have h1 := h.nd
    unfold List.Nodup at h1 ⊢
    rw [List.pairwise_map] at h1 ⊢
    refine h1.imp_of_mem ?_
    intro a b ha hb hab
    have := h.win a ha; have := h.win b hb
    omega) (fun y hy => by
    obtain ⟨e, he, rfl⟩ := List.mem_map.1 hy
    have := h.win e he; omega)
  simpa using this
theorem comeF_fuel : ∀ (n : Nat) (want : Int) (E : List (Int × Br)), E.length ≤ n → comeF n want E = comeF E.length want E
  | 0, want, E, h => by have : E = [] := List.eq_nil_of_length_eq_zero (by omega); subst this; rfl
  | n + 1, want, E, h => by
    cases hf : fnd want E with
    | none => rw [comeF_none hf, comeF_none hf]
    | some v =>
      have hl := fnd_del_len hf
      rw [comeF_some hf]
      have ih := comeF_fuel n (IntKind.wrap .u64 (want + 1)) (X.mdel want E) (by omega)
      simp only [comeF, hf, ih]
theorem wrap_next (want : Int) (h0 : 0 ≤ want) (h1 : want < 18446744073709551616) : (want + 1 < 18446744073709551616 ∧ IntKind.wrap .u64 (want + 1) = want + 1) ∨ (want = 18446744073709551615 ∧ IntKind.wrap .u64 (want + 1) = 0) := by
  by_cases h : want + 1 < 18446744073709551616
  · exact .inl ⟨h, w_u64 (by omega) h⟩
  · refine .inr ⟨by omega, ?_⟩
    have : want = 18446744073709551615 := by omega
    subst this; rfl
theorem mdel_keys {β : Type} {x : Int} {l : List (Int × β)} (h : (l.map (·.1)).Nodup) {e : Int × β} (he : e ∈ X.mdel x l) : e.1 ≠ x := by
  intro hx
  have h1 : fnd x (X.mdel x l) = none := by rw [fnd_mdel h]; simp
  exact fnd_none.1 h1 (List.mem_map.2 ⟨e, he, hx⟩)
theorem comeF_inv : ∀ (n : Nat) (want : Int) (E : List (Int × Br)), E.length ≤ n → 0 ≤ want → want < 18446744073709551616 → (∀ e ∈ E, want ≤ e.1 ∧ e.1 < want + 8 ∧ e.1 < 18446744073709551616) → (E.map (·.1)).Nodup →
    0 ≤ (comeF n want E).2.1 ∧ (comeF n want E).2.1 < 18446744073709551616 ∧ (∀ e ∈ (comeF n want E).2.2, (comeF n want E).2.1 < e.1 ∧ e.1 < (comeF n want E).2.1 + 8 ∧ e.1 < 18446744073709551616) ∧ ((comeF n want E).2.2.map (·.1)).Nodup
  | n, want, E, hn, h0, h1, hw, hnd => by
    cases hf : fnd want E with
    | none =>
      rw [comeF_none hf]
      refine ⟨h0, h1, fun e he => ?_, hnd⟩
      have hm : e ∈ E := he
      have := hw e hm
      have hne : e.1 ≠ want := fun hx => fnd_none.1 hf (List.mem_map.2 ⟨e, hm, hx⟩)
      show want < e.1 ∧ e.1 < want + 8 ∧ e.1 < 18446744073709551616
      omega
    | some v =>
      have hl := fnd_del_len hf
      cases n with
      | zero => omega
      | succ n =>
        simp only [comeF, hf]
        rcases wrap_next want h0 h1 with ⟨g1, g2⟩ | ⟨g1, g2⟩
        · rw [g2]
          refine comeF_inv n (want + 1) (X.mdel want E) (by omega) (by omega) g1 (fun e he => ?_) (mdel_nodup hnd)
          have := hw e (mem_del he)
          have := mdel_keys hnd he
          omega
        · rw [g2]
          have hnil : X.mdel want E = [] := List.eq_nil_iff_forall_not_mem.2 fun e he => by
            have := hw e (mem_del he)
            have := mdel_keys hnd he
            omega
          rw [hnil]
          exact comeF_inv n 0 [] (by simp) (by omega) (by omega) (by simp) (by simp)
theorem InvE.acked {x : Lk} (h : InvE x) (a : Int) : InvE (x.acked a) := ⟨by rw [acked_want]; exact h.w0, by rw [acked_want]; exact h.w1, by rw [acked_want, acked_E]; exact h.win, by rw [acked_E]; exact h.nd⟩
theorem InvE.owes {x : Lk} (h : InvE x) (a : Int) : InvE (x.owes a) := ⟨(h.acked a).w0, (h.acked a).w1, (h.acked a).win, (h.acked a).nd⟩
theorem InvE.came {x : Lk} (h : InvE x) : InvE x.came := by
  have key : ∀ e ∈ x.E, IntKind.wrap .u64 (x.want + 1) ≤ e.1 ∧ e.1 < IntKind.wrap .u64 (x.want + 1) + 8 ∧ e.1 < 18446744073709551616 := fun e he => by
    have := h.win e he
    rcases wrap_next x.want h.w0 h.w1 with ⟨g1, g2⟩ | ⟨g1, g2⟩
    · rw [g2]; omega
    · omega
  have hr : 0 ≤ IntKind.wrap .u64 (x.want + 1) ∧ IntKind.wrap .u64 (x.want + 1) < 18446744073709551616 := by
    have h0 := h.w0; have h1 := h.w1
    rcases wrap_next x.want h.w0 h.w1 with ⟨g1, g2⟩ | ⟨g1, g2⟩ <;> rw [g2] <;> omega
  obtain ⟨g1, g2, g3, g4⟩ := comeF_inv x.E.length _ x.E (Nat.le_refl _) hr.1 hr.2 key h.nd
  exact ⟨g1, g2, g3, g4⟩
theorem keeps_win {x : Lk} (h : InvE x) {p : Pk} (h0 : 0 ≤ p.seq) (h1 : p.seq < 18446744073709551616) : (x.keeps p = true ↔ (x.want < p.seq ∧ p.seq - x.want < 8) ∧ fnd p.seq x.E = none) := by
  have hw0 := h.w0; have hw1 := h.w1
  simp only [Lk.keeps, Bool.and_eq_true, decide_eq_true_eq, Option.isNone_iff_eq_none]
  constructor
  · rintro ⟨⟨g1, g2⟩, g3⟩
    rw [w_u64 (by omega) (by omega)] at g2
    exact ⟨⟨g1, g2⟩, g3⟩
  · rintro ⟨⟨g1, g2⟩, g3⟩
    exact ⟨⟨g1, by rw [w_u64 (by omega) (by omega)]; exact g2⟩, g3⟩
theorem InvE.heard {x : Lk} (h : InvE x) (p : Pk) (nb : Br) (h0 : 0 ≤ p.seq) (h1 : p.seq < 18446744073709551616) : InvE (x.heard p nb).2 := by
  unfold Lk.heard
  split
  · exact h
  split
  · exact h.acked _
  split
  · exact (h.owes _).came
  have ho := h.owes p.ack
  split
  · rename_i hk
    obtain ⟨⟨g1, g2⟩, g3⟩ := (keeps_win ho h0 h1).1 hk
    refine ⟨ho.w0, ho.w1, fun e he => ?_, mput_nodup ho.nd⟩
    rcases mput_mem2 he with rfl | he
    · exact ⟨g1, by show p.seq < (x.owes p.ack).want + 8; omega, h1⟩
    · exact ho.win e he
  · exact ho
end Go.Proofs
