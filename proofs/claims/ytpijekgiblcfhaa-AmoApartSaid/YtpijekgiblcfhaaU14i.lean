import Derived.Test.YtpijekgiblcfhaaU14h
set_option linter.unusedVariables false
set_option linter.unusedSimpArgs false
set_option maxRecDepth 10000
namespace Go.Proofs
open Go X RowKit
theorem fnd_first {p : Int × Int} : ∀ (F : List Fr) (j : Nat) (hj : j < F.length), (∀ i (hi : i < F.length), i < j → F[i].1 ≠ p) → F[j].1 = p → fnd p F = some F[j].2
  | x :: F, 0, hj, _, h => by
    simp only [List.getElem_cons_zero] at h ⊢
    rw [fnd, if_pos h.symm]
  | x :: F, j + 1, hj, h1, h => by
    have h0 := h1 0 (by simp) (by omega)
    simp only [List.getElem_cons_zero, List.getElem_cons_succ] at h h0 ⊢
    rw [fnd, if_neg (fun e => h0 e.symm)]
    exact fnd_first F j _ (fun i hi hij => by have := h1 (i + 1) (by simpa using hi) (by omega); simpa using this) h
theorem fnd_no {p : Int × Int} {F : List Fr} (h : ∀ i (hi : i < F.length), i < F.length → F[i].1 ≠ p) : fnd p F = none := by
  rw [fnd_none]
  intro hm
  obtain ⟨x, hx, e⟩ := List.mem_map.1 hm
  obtain ⟨i, hi, rfl⟩ := List.mem_iff_getElem.1 hx
  exact h i hi hi e
theorem c_rFloor (b : Nat) (r : Rt) (p : Int × Int) (hr : r.Ok) : Ctr Try.prog 33 #[.pointer (some ⟨b, 0, none⟩), pkV p] noMem [rtA b r] (fun _ : Unit => .int .u32 (floorF r.F p)) (fun _ _ => True) (fun _ => [rtA b r]) := by
  refine Ctr.mk fun w F m C _ => x_rFloor _ _ _ w _ fun w1 L2 h1 g1 => ?_
  obtain ⟨s, q, C⟩ := rtO C
  replace C := C.hidL h1 g1
  have hfl := hr.fl
  refine ⟨fun n w' L' => ∃ (j : Nat), n = j ∧ j ≤ r.F.length ∧ (∀ i (hi : i < r.F.length), i < j → r.F[i].1 ≠ p) ∧ Ctx F m w w' L' m (rtAs b r s q), fun n _ => (r.F.length - n).toNat, ⟨0, rfl, by omega, fun i hi h => by omega, C⟩, ?_⟩
  clear C h1 g1
  rintro n w6 L7 _ ⟨j, rfl, hj, hlt, D⟩
  have hcell : ∀ {w' L'}, Ctx F m w w' L' m (rtAs b r s q) → w'.cell? ((⟨b, 0, none⟩ : Addr).add 2) = some (slV q r.F.length) ∧ (⟨b, 0, none⟩ : Addr).block ∉ L' := fun D => ⟨by rw [Addr.add_mid]; exact D.blkCell (j := 2) rfl, D.blkAt.2⟩
  refine ⟨_, _, _, (hcell D).1, (hcell D).2, ?_⟩
  by_cases hjl : j < r.F.length
  rotate_left
  · rw [if_neg (by simpa using hjl)]
    have hf : fnd p r.F = none := fnd_no fun i hi h => hlt i hi (by omega)
    exact Ctr.ret () (by rw [floorF, hf]; rfl) trivial (rtI s q D)
  rw [if_pos (by simpa using hjl)]
  refine ⟨_, _, _, (hcell D).1, (hcell D).2, by omega, by simpa using hjl, ?_⟩
  obtain ⟨pa, hpa, hc, hcb⟩ := sl_elem fr_len (by decide) (D.pm [2, 0, 1] rfl) hjl
  obtain ⟨q1, q2⟩ := q
  simp only at hpa
  subst hpa
  rw [onSome_some]
  refine ⟨r.F[j].1.1, r.F[j].1.2, by rw [Int.toNat_natCast]; exact cells_part hc 0 _ (fun k v h => by rw [Nat.zero_add]; match k, h with | 0, h | 1, h => exact h), by rw [Int.toNat_natCast, Addr.add_zero']; exact hcb, ?_⟩
  by_cases he : r.F[j].1 = p
  · rw [if_pos (by rw [he]; simp)]
    refine ⟨_, _, _, (hcell D).1, (hcell D).2, by omega, by simpa using hjl, ?_⟩
    rw [onSome_some]
    refine ⟨r.F[j].2, by rw [Int.toNat_natCast]; exact hc 2 _ rfl, by rw [Int.toNat_natCast]; exact hcb, fun w24 h24 => ?_⟩
    exact Ctr.ret () (by rw [floorF, fnd_first _ j hjl hlt he]; rfl) trivial (rtI _ _ (D.hid0 h24))
  · rw [if_neg (by intro h; simp only [Bool.and_eq_true, beq_iff_eq] at h; exact he (Prod.ext h.1 h.2))]
    intro w17 L18 h17 g17
    have e : IntKind.wrap .i64 ((j : Int) + 1) = ((j + 1 : Nat) : Int) := by rw [w_i64 (by omega) (by omega)]; omega
    rw [e]
    refine ⟨rfl, ⟨j + 1, rfl, hjl, fun i hi hij => ?_, D.hidL h17 g17⟩, Nat.le_of_eq (by show ((r.F.length : Int) - ((j + 1 : Nat) : Int)).toNat + 1 = ((r.F.length : Int) - (j : Int)).toNat; omega)⟩
    by_cases hi2 : i = j
    · subst hi2; exact he
    · exact hlt i hi (by omega)
theorem c_rold (b : Nat) (r : Rt) (d : I) (hr : r.Ok) : Ctr Try.prog 51 #[.pointer (some ⟨b, 0, none⟩), d.V] noMem [rtA b r] (fun _ : Unit => .bool (oldF r.F d)) (fun _ _ => True) (fun _ => [rtA b r]) := by
  refine Ctr.mk fun w F m C _ => x_rold _ _ _ _ _ _ _ _ _ _ _ w _ ⟨[], facts_nil _ _, ?_⟩
  by_cases h : d.d = 0
  · rw [if_pos (by simp [h])]
    intro w3 L4 h3 g3
    refine (c_rFloor b r (d.n, d.l) hr).call (As := []) (C.hidL h3 g3) trivial fun _ m2 w6 hk hm _ C => ⟨_, rfl, hk, facts_nil _ _, ?_⟩
    exact Ctr.ret () (by simp [oldF, h]) trivial C
  · rw [if_neg (by simpa using h)]
    intro w2 h2
    exact Ctr.ret () (by simp [oldF, h]) trivial (C.hid0 h2)
theorem rfnd_some {L : List Rw} {d : I} {x : Rw} (h : rfnd L d = some x) : ∃ hk : fK L d < L.length, L[fK L d] = x ∧ x.id = d := by
  rw [rfnd] at h
  cases hg : L[fK L d]? with
  | none => rw [hg] at h; cases h
  | some y =>
    rw [hg] at h
    simp only at h
    split at h
    · injection h with h; subst h
      obtain ⟨hk, e⟩ := List.getElem?_eq_some_iff.1 hg
      exact ⟨hk, e, ‹_›⟩
    · cases h
theorem c_rState (b : Nat) (r : Rt) (d : I) (hd : d.In) (hr : r.Ok) : Ctr Try.prog 32 #[.pointer (some ⟨b, 0, none⟩), d.V] noMem [rtA b r] (fun _ : Unit => .int .i64 (stateR r d)) (fun _ _ => True) (fun _ => [rtA b r]) := by
  refine Ctr.mk fun w F m C _ => x_rState _ _ _ _ _ _ _ _ _ _ _ w _ fun w1 L2 h1 g1 => ?_
  refine (c_rfind b r d hd hr).call (As := []) (C.hidL h1 g1) trivial fun _ m1 w4 hk hm _ C => ⟨_, _, rfl, hk, ?_⟩
  cases hf : rfnd r.L d with
  | some x =>
    obtain ⟨hk, hx, hxd⟩ := rfnd_some hf
    rw [if_pos (by simp)]
    obtain ⟨s, q, C⟩ := rtO C
    refine ⟨_, _, _, by rw [Addr.add_mid]; exact C.blkCell (j := 1) rfl, C.blkAt.2, by omega, by simpa using hk, ?_⟩
    obtain ⟨pa, hpa, hc, hcb⟩ := sl_elem rw_len (by decide) (C.pm [1, 0, 2] rfl) hk
    rw [hpa, onSome_some]
    refine ⟨r.L[fK r.L d].ended, by rw [Int.toNat_natCast]; exact hc 10 _ rfl, by rw [Int.toNat_natCast]; exact hcb, ?_⟩
    rw [hx]
    cases he : x.ended with
    | true =>
      rw [if_pos (by simp)]
      exact Ctr.ret () (by rw [stateR, hf]; simp [he]) trivial (rtI s q C)
    | false =>
      rw [if_neg (by simp), if_pos (by simp)]
      exact Ctr.ret () (by rw [stateR, hf]; simp [he]) trivial (rtI s q C)
  | none =>
    rw [if_neg (by simp), if_neg (by simp)]
    refine (c_rold b r d hr).call (As := []) C trivial fun _ m2 w8 hk2 hm2 _ C => ⟨_, rfl, hk2, ?_⟩
    cases ho : oldF r.F d with
    | true =>
      rw [if_pos rfl]
      exact Ctr.ret () (by rw [stateR, hf]; simp [ho]) trivial C
    | false =>
      rw [if_neg (by decide)]
      obtain ⟨s, q, C⟩ := rtO C
      have hfw : ∀ {w' L' m'}, Ctx F m w w' L' m' (rtAs b r s q ++ []) → FactsW [(⟨b, 0, none⟩, [.int .i64 r.win])] w' L' := fun C => C.blkFact1 0 _ rfl (facts_nil _ _)
      refine ⟨_, hfw C, ?_⟩
      by_cases h : d.d = 0
      · rw [if_pos (by simp [h])]
        refine ⟨r.win, by simp [Addr.add_mid], fun w13 L14 h13 g13 => ?_⟩
        refine (c_rFloor b r (d.n, d.l) hr).call (As := []) (rtI s q (C.hidL h13 g13)) trivial fun _ m3 w16 hk3 hm3 _ C => ⟨_, rfl, hk3, ?_, ?_⟩
        · obtain ⟨s2, q2, C⟩ := rtO C
          exact C.blkFact1 0 _ rfl (facts_nil _ _)
        · have hfl := floor_in hr.f (d.n, d.l)
          have hs := hd.s
          rw [w_i64 (n := d.s) (by omega) (by omega), w_i64 (n := floorF r.F (d.n, d.l)) (by omega) (by omega), w_i64 (by omega) (by omega)]
          by_cases hw : d.s - floorF r.F (d.n, d.l) > r.win
          · rw [if_pos (by simpa using hw)]
            exact Ctr.ret () (by rw [stateR, hf]; simp only [ho, h, hw]; rfl) trivial C
          · rw [if_neg (by simpa using hw)]
            exact Ctr.ret () (by rw [stateR, hf]; simp only [ho, h, hw]; rfl) trivial C
      · rw [if_neg (by simpa using h)]
        intro w11 h11
        have hdb : (d.d == 0) = false := by simpa using h
        exact Ctr.ret () (by rw [stateR, hf]; simp only [ho, hdb]; rfl) trivial (rtI s q (C.hid0 h11))
end Go.Proofs
