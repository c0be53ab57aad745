import Derived.Test.YtjabbpcfinjofaaU23j
import Derived.Test.YtjabbpcfinjofaaV23c
set_option linter.unusedVariables false
set_option linter.unusedSimpArgs false
set_option maxRecDepth 10000
namespace Go.Proofs
open Go X RowKit
def atB (p : Int) (a : Ac) : Bool := decide (a.at_ = p)
/-- what was seen, and the first order: each place's first -/
structure Rel (x : An) (seen : List Ac) : Prop where
  at_ : ∀ a ∈ seen, 0 ≤ a.at_ ∧ a.at_ < (x.o 1).length
  first : ∀ p : Nat, ∀ y, (x.o 1)[p]? = some y → ∃ a, seen.find? (atB p) = some a ∧ y.er = a.l.er
theorem find_take {α : Type} {p : α → Bool} : ∀ {l : List α} {k : Nat} (hk : k < l.length), (∀ a ∈ l.take k, p a = false) → p l[k] = true → l.find? p = some l[k]
  | a :: l, 0, _, _, h => by simp only [List.getElem_cons_zero] at h ⊢; simp [List.find?_cons, h]
  | a :: l, k + 1, hk, hn, h => by
    simp only [List.getElem_cons_succ] at h ⊢
    have := hn a (by simp)
    simp only [List.find?_cons, this]
    exact find_take (by simpa using hk) (fun b hb => hn b (by simp [hb])) h
theorem Rel.app {x : An} {seen : List Ac} {a : Ac} {f : En} (h : Rel x seen) (ha : a.at_ = (x.o 1).length) (hf : f.er = a.l.er) : Rel { x with o := updO x.o 1 (x.o 1 ++ [f]) } (seen ++ [a]) := by
  have e : ({ x with o := updO x.o 1 (x.o 1 ++ [f]) } : An).o 1 = x.o 1 ++ [f] := rfl
  refine ⟨fun b hb => ?_, fun p y hy => ?_⟩
  · rw [e, List.length_append]
    rcases List.mem_append.1 hb with hb | hb
    · have := h.at_ b hb; simp only [List.length_singleton]; omega
    · simp only [List.mem_singleton] at hb; subst hb; simp only [List.length_singleton]; omega
  · rw [e] at hy
    by_cases hp : p < (x.o 1).length
    · rw [List.getElem?_append_left hp] at hy
      obtain ⟨b, hb, hy'⟩ := h.first p y hy
      exact ⟨b, by rw [List.find?_append, hb]; rfl, hy'⟩
    · have hp2 : p = (x.o 1).length := by
        have := (List.getElem?_eq_some_iff.1 hy).1
        simp at this; omega
      subst hp2
      rw [List.getElem?_append_right (by omega)] at hy
      simp at hy; subst hy
      refine ⟨a, ?_, hf⟩
      have hn : seen.find? (atB ((x.o 1).length : Nat)) = none := List.find?_eq_none.2 fun b hb => by
        have := h.at_ b hb
        simp only [atB, decide_eq_true_eq]; omega
      rw [List.find?_append, hn]
      simp [atB, ha]
theorem Rel.keep {x y : An} {seen : List Ac} {a : Ac} (h : Rel x seen) (ha : 0 ≤ a.at_ ∧ a.at_ < (x.o 1).length) (hy : y.o = x.o) : Rel y (seen ++ [a]) := by
  obtain ⟨pre, o, sp⟩ := y
  simp only at hy; subst hy
  refine ⟨fun b hb => ?_, fun p y hy => ?_⟩
  · rcases List.mem_append.1 hb with hb | hb
    · exact h.at_ b hb
    · simp only [List.mem_singleton] at hb; subst hb; exact ha
  · obtain ⟨b, hb, hy'⟩ := h.first p y hy
    exact ⟨b, by rw [List.find?_append, hb]; rfl, hy'⟩
theorem row_l (a : Ac) (j : Nat) (v : Value) (h : a.l.row[j]? = some v) : a.row[56 + j]? = some v := by
  have e : a.row = a.row.take 56 ++ a.l.row := rfl
  rw [e, List.getElem?_append_right (by simp), ← h]
  congr 1; simp
theorem l_AnnalSplits (w : World) (q : Sl) (l : List Ac) (hr : ∀ a ∈ l, -9223372036854775808 ≤ a.at_ ∧ a.at_ < 9223372036854775808) (hm : MSrc (memOf w) 74 (slV q l.length) l.length (l.flatMap Ac.row)) (ha : ∀ a ∈ l, AcM (memOf w) a) :
    Calls Try.prog 3 #[slV q l.length] w (LawR w) := by
  refine x_gemotlaw23_AnnalSplits _ _ _ w _ ?_
  have C := lawStart w
  refine (c_Light q l).call (As := []) C ⟨hm, ha⟩ fun b m1 w2 hk hm1 hb C => ⟨_, rfl, hk.size, ?_⟩
  cases b with
  | false =>
    rw [if_neg (by decide)]
    exact c_knows.call (As := []) C trivial fun _ m2 w5 hk hm2 _ C => ⟨_, rfl, hk.size, rfl, C.at_⟩
  | true =>
  rw [if_pos (by decide)]
  obtain ⟨hlen, hlt⟩ := hb rfl
  refine c_knows.call (As := []) C trivial fun _ m2 w8 hk hm2 _ C => ⟨_, rfl, hk.size, ?_⟩
  rw [if_neg (by decide)]
  refine c_New.call (As := []) C trivial fun b m3 w11 hk hm3 hx C => ⟨_, rfl, hk.size, ?_⟩
  have hm03 := (hm1.le_trans hm2).le_trans hm3
  refine ⟨fun n q' k c i w' _ => ∃ (j : Nat) (x : An) (seen : List Ac) (m' : Mem), i = j ∧ j ≤ l.length ∧ n = x.sp ∧ 0 ≤ x.sp ∧ x.sp ≤ j ∧ (x.o 1).length ≤ j ∧ k = seen.length ∧ seen.length ≤ j ∧ AnM m' x ∧ (∀ a ∈ seen, EnM m' a.l) ∧ Rel x seen ∧ m3.le m' ∧
    Ctx [] (memOf w) w w' [] m' [anA b x, slA (.slice q' seen.length c) seen.length (seen.flatMap Ac.row) 54 74], fun _ _ _ _ i _ => ((l.length : Int) - i).toNat,
    ⟨0, an0, [], m3, rfl, by omega, rfl, by simp [an0], by simp [an0], by simp [an0], rfl, by simp, hx, by simp, ⟨by simp, by simp [an0]⟩, Mem.le_refl _, (Ctx.slNil C).swap⟩, ?_⟩
  clear C
  rintro n q' k c i w20 L21 _ ⟨j, x, seen, m', rfl, hj, rfl, hs0, hs1, hol, rfl, hsl, hxm, hsm, hrel, hmm, D⟩
  by_cases hjl : j < l.length
  rotate_left
  · rw [if_neg (by simpa using hjl)]
    exact (c_Splits b x hxm.pre).call (As := [_]) D trivial fun _ m4 w23 hk hm4 _ D => ⟨_, rfl, hk.size, by simp, D.at_⟩
  rw [if_pos (by simpa using hjl)]
  have hm04 := hm03.le_trans hmm
  obtain ⟨a0, ha0, hc⟩ := (hm.mono hm04).elem ac_len hjl
  refine ⟨by omega, by simpa using hjl, ?_⟩
  rw [ha0, onSome_some]
  have hra := hr _ (List.getElem_mem hjl)
  have ham := (ha _ (List.getElem_mem hjl)).mono hm04
  have hal := hlt _ (List.getElem_mem hjl)
  generalize l[j] = a at hc hra ham hal
  refine ⟨_, _, _, _, _, _, _, _, _, _, _, _, _, _, _, _, _, _, _, _, _, _, _, _, _, _, _, _, _, _, _, _, _, _, _, _, _, _, _, _, _, _, _, _, _, _, _, _, _, _, _, _, _, _, _, _, _, _, _, _, _, _, _, _, _, _, _, _, _, _, _, _, _, _, _, _, _, _, _, _, _, _, _, _, by rw [Int.toNat_natCast]; exact D.cells hc, fun w110 L111 h110 g110 => ?_⟩
  refine (c_Order b x 1 (by omega) (by omega)).call (As := [_]) (D.hidL h110 g110) hxm fun o m4 w113 hk4 hm4 ho D => ⟨_, _, _, rfl, hk4, ?_⟩
  have hol' : o.2.length = (x.o 1).length := by have := congrArg List.length ho.1; simpa using this
  refine (c_Do2 b x a hra (by omega) (by omega) hal).call (As := _) D ⟨hxm.mono hm4, ham.mono hm4⟩ fun f m5 w118 hk5 hm5 hf D => ⟨_, rfl, hk5, ?_⟩
  have D' : Ctx [] (memOf w) w w118 L111 m5 [anA b (commitF x 1 a.at_ a.l f).2, slA (.slice q' seen.length c) seen.length (seen.flatMap Ac.row) 54 74] := D.pk [0, 2] [1] rfl
  clear D
  rw [hol', w_i64 (n := (j : Int) + 1) (by omega) (by omega)]
  have hm35 : m3.le m5 := hmm.le_trans (hm4.le_trans hm5)
  have hm45 := hm4.le_trans hm5
  have hme : Nat.le (((l.length : Int) - ((j : Int) + 1)).toNat + 1) ((l.length : Int) - (j : Int)).toNat := Nat.le_of_eq (by omega)
  have hsm5 : ∀ s ∈ seen, EnM m5 s.l := fun s hs => (hsm s hs).mono hm45
  by_cases hout : a.at_ < 0 ∨ a.at_ > (x.o 1).length
  · rw [if_pos (by simp only [Bool.or_eq_true, decide_eq_true_eq]; omega)]
    have ef : commitF x 1 a.at_ a.l f = (false, x) := by rw [commitF, if_pos hout]
    rw [ef] at hf D'
    exact ⟨⟨j + 1, x, seen, m5, by omega, by omega, rfl, hs0, by omega, by omega, rfl, by omega, hf.1, hsm5, hrel, hm35, D'.noL⟩, hme⟩
  rw [if_neg (by simp only [Bool.or_eq_true, decide_eq_true_eq]; omega)]
  have heM : EnM m5 a.l := ⟨(ham.mono hm45).l.p, (ham.mono hm45).l.w, by have := hal.p; omega, by have := hal.w; omega⟩
  generalize hx' : (commitF x 1 a.at_ a.l f).2 = x' at hf D'
  have fin : ∀ (w' : World) (L' : List Nat) (m' : Mem), m5.le m' → Rel x' (seen ++ [a.two]) → 0 ≤ x'.sp → x'.sp ≤ (j : Int) + 1 → (x'.o 1).length ≤ j + 1 → Ctx [] (memOf w) w w' L' m' [anA b x', slA (.slice q' seen.length c) seen.length (seen.flatMap Ac.row) 54 74] →
      ∃ q2 : Option Addr, ∃ k2 c2 : Nat, ∃ w2 : World, Sem.run Try.prog (Go.Builtin.append_ #[22, 22] 22 #[.slice q' seen.length c, .slice (some ⟨w'.heap.size, 0, none⟩) 1 1]) (w'.alloc (.cells a.two.row.toArray 54)) = .ok (.slice q2 k2 c2) w2 ∧
        Kept L' (w'.alloc (.cells a.two.row.toArray 54)) w2 ∧ (∃ (j_1 : Nat) (x : An) (seen : List Ac) (m' : Mem), (j : Int) + 1 = j_1 ∧ j_1 ≤ l.length ∧ x'.sp = x.sp ∧ 0 ≤ x.sp ∧ x.sp ≤ j_1 ∧ (x.o 1).length ≤ j_1 ∧ k2 = seen.length ∧ seen.length ≤ j_1 ∧ AnM m' x ∧ (∀ a ∈ seen, EnM m' a.l) ∧ Rel x seen ∧ m3.le m' ∧
          Ctx [] (memOf w) w w2 [] m' [anA b x, slA (.slice q2 seen.length c2) seen.length (seen.flatMap Ac.row) 54 74]) ∧
        Nat.le (((l.length : Int) - ((j : Int) + 1)).toNat + 1) ((l.length : Int) - (j : Int)).toNat := fun w' L' m' hm' hR h0 h1 h2 D => by
    have D0 := D.alloc a.two.row 54
    have hcl : Cells _ ⟨w'.heap.size, 0, none⟩ a.two.row := D0.blkCells (o := 0) fun k v e => by simpa using e
    obtain ⟨q2, c2, w2, hrun, hkk, D2⟩ := Ctx.app (P := Try.prog) (bytes := 2000) (t := 22) (t2 := 22) (D0.pm [2, 0, 1] rfl) 22 (by kernel_rfl) (.some ⟨w'.heap.size, 0, none⟩ 1 1 a.two.row rfl hcl) (by omega) (ac_one _)
    have e1 : (seen ++ [a.two]).length = seen.length + 1 := by simp
    have e2 : (seen ++ [a.two]).flatMap Ac.row = seen.flatMap Ac.row ++ a.two.row := by simp
    refine ⟨q2, _, c2, w2, hrun, hkk, ⟨j + 1, x', seen ++ [a.two], m', by omega, by omega, rfl, h0, by omega, by omega, e1.symm, by omega, hf.1.mono hm', fun s hs => ?_, hR, hm35.le_trans hm', ?_⟩, hme⟩
    · rcases List.mem_append.1 hs with hs | hs
      · exact (hsm5 s hs).mono hm'
      · simp only [List.mem_singleton] at hs; subst hs; exact heM.mono hm'
    · rw [e1, e2]
      exact Ctx.noL (D2.pk [2, 0] [1] rfl)
  have hcf : x' = (commitF x 1 a.at_ a.l f).2 := hx'.symm
  rw [commitF, if_neg hout] at hcf
  refine ⟨fun n' i' w' L' => ∃ k : Nat, n' = x.sp ∧ i' = k ∧ k ≤ seen.length ∧ (∀ s ∈ seen.take k, atB a.at_ s = false) ∧ Ctx [] (memOf w) w w' L' m5 [anA b x', slA (.slice q' seen.length c) seen.length (seen.flatMap Ac.row) 54 74], fun _ i' _ => ((seen.length : Int) - i').toNat, ⟨0, rfl, rfl, by omega, by simp, D'⟩, ?_⟩
  clear D'
  rintro n' i' w124 L125 _ ⟨k, rfl, rfl, hk, hnone, D⟩
  by_cases hkl : k < seen.length
  rotate_left
  · rw [if_neg (by simpa using hkl)]
    have hkl2 : k = seen.length := by omega
    rw [hkl2, List.take_length] at hnone
    by_cases hat : a.at_ = (x.o 1).length
    · rw [if_pos hat] at hcf
      subst hcf
      have := fin w124 L125 m5 (Mem.le_refl _) (hrel.app (a := a.two) hat hf.2) hs0 (show x.sp ≤ _ by omega) (by show (x.o 1 ++ [f]).length ≤ _; simp; omega) D
      exact this
    · exfalso
      obtain ⟨p, hp⟩ : ∃ p : Nat, a.at_ = p := ⟨a.at_.toNat, by omega⟩
      have hpl : p < (x.o 1).length := by omega
      obtain ⟨s, hs, _⟩ := hrel.first p _ (List.getElem?_eq_getElem hpl)
      have h1 := List.find?_some hs
      have h2 := hnone s (List.mem_of_find?_eq_some hs)
      rw [hp] at h2; rw [h2] at h1; cases h1
  rw [if_pos (by simpa using hkl)]
  have hfl := flat_len ac_len seen
  have hcs : seen.flatMap Ac.row ≠ [] := fun e => by rw [e] at hfl; simp at hfl; omega
  obtain ⟨p, rfl⟩ : ∃ p, q' = some p := by
    cases hq : q' with
    | some p => exact ⟨p, rfl⟩
    | none => exact absurd (D.swap.slCells.2 hq) hcs
  have hsc := D.swap.slCells.1 p rfl
  have hce := cells_elem ac_len hsc.1 k hkl
  have hnL := hsc.2 hcs
  refine ⟨by omega, by simpa using hkl, ?_⟩
  rw [onSome_some, Int.toNat_natCast]
  refine ⟨_, hce 1 _ rfl, by rw [addr_block]; exact hnL, ?_⟩
  by_cases heq : seen[k].at_ = a.at_
  rotate_left
  · rw [if_neg (by simpa using heq)]
    rw [w_i64 (n := (k : Int) + 1) (by omega) (by omega)]
    refine fun w132 L133 h132 g132 => ⟨rfl, ⟨k + 1, rfl, by omega, by omega, fun s hs => ?_, D.hidL h132 g132⟩, Nat.le_of_eq (by show ((seen.length : Int) - ((k : Int) + 1)).toNat + 1 = ((seen.length : Int) - (k : Int)).toNat; omega)⟩
    rw [List.take_succ_eq_append_getElem hkl] at hs
    rcases List.mem_append.1 hs with hs | hs
    · exact hnone s hs
    · simp only [List.mem_singleton] at hs; subst hs; simp [atB, heq]
  rw [if_pos (by simpa using heq)]
  have h0 := hce 0 _ rfl
  have hblk := World.block_lt_of_cell? w124 _ h0
  refine ⟨_, factsMore (cells_part hce 56 seen[k].l.row (row_l _)) (by rw [addr_block] at hblk ⊢; exact hblk) (by rw [addr_block, addr_block]; exact hnL) (facts_nil _ _), by omega, by simpa using hkl, ?_⟩
  rw [onSome_some]
  refine ⟨_, _, _, _, _, _, _, _, _, _, _, _, _, _, _, _, _, _, _, _, _, _, List.mem_cons_self, fun w158 L159 h158 g158 => ?_⟩
  refine (c_r5Same seen[k].l a.l).call (As := _) (D.hidL h158 g158) ⟨hsm5 _ (List.getElem_mem hkl), heM⟩ fun _ m6 w161 hk6 hm6 _ E => ⟨_, rfl, hk6, ?_⟩
  have hsk := hrel.at_ _ (List.getElem_mem hkl)
  rw [heq] at hsk
  have hne : ¬ a.at_ = (x.o 1).length := by omega
  rw [if_neg hne] at hcf
  have hpl : a.at_.toNat < (x.o 1).length := by omega
  rw [List.getElem?_eq_getElem hpl] at hcf
  simp only at hcf
  obtain ⟨s, hs, hse⟩ := hrel.first a.at_.toNat _ (List.getElem?_eq_getElem hpl)
  rw [show ((a.at_.toNat : Nat) : Int) = a.at_ by omega, find_take hkl hnone (by simp [atB, heq])] at hs
  injection hs with hs; subst hs
  rw [hse] at hcf
  by_cases hsame : seen[k].l.er = a.l.er
  · rw [if_neg (by simp [hsame])]
    rw [if_pos hsame] at hcf
    subst hcf
    exact fin w161 L159 m6 hm6 (hrel.keep (a := a.two) hsk rfl) hs0 (by omega) (by omega) E
  · rw [if_pos (by simp [hsame])]
    rw [if_neg hsame] at hcf
    subst hcf
    rw [w_i64 (n := x.sp + 1) (by omega) (by omega)]
    exact fin w161 L159 m6 hm6 (hrel.keep (a := a.two) hsk rfl) (show 0 ≤ x.sp + 1 by omega) (show x.sp + 1 ≤ _ by omega) (show (x.o 1).length ≤ _ by omega) E
end Go.Proofs
