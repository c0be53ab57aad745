import Derived.Test.YtmfmihkjkgifiaaU10g
set_option linter.unusedVariables false
set_option linter.unusedSimpArgs false
set_option maxRecDepth 10000
namespace Go.Proofs
open Go X RowKit
theorem outs_len (x : Lk) (now : Int) (h : ∀ s ∈ x.W, s.told = false) (ho : x.owed = false) : (x.outs now).length = min 8 x.W.length := by
  have e : (x.W.take 8).filter (dueB x.again now) = x.W.take 8 := List.filter_eq_self.2 fun s hs => by simp [dueB, h s (List.mem_of_mem_take hs)]
  rw [Lk.outs, ho, Bool.and_false, if_neg (by decide), Lk.dues, e]
  simp
theorem l_LinkBounds (w : World) (n f : Int) (hn : -9223372036854775808 ≤ n ∧ n < 9223372036854775808) (hf : 0 ≤ f ∧ f < 18446744073709551616) :
    Calls Try.prog 5 #[.int .i64 n, .int .u64 f] w (LawR w) := by
  refine x_gemotlaw10_LinkBounds _ _ w _ ?_
  have C := lawStart w
  have hr1 := Int.tmod_lt_of_pos n (show (0 : Int) < 60 by omega)
  have hr2 : -60 < n.tmod 60 := by
    have := Int.lt_tmod_of_pos n (show (0 : Int) < 60 by omega); omega
  have hN : ∃ N : Nat, (IntKind.i64.wrap (n.tmod 60 + 60)).tmod 60 = (N : Int) ∧ N < 60 := by
    rw [w_i64 (by omega) (by omega)]
    have h1 := Int.tmod_lt_of_pos (n.tmod 60 + 60) (show (0 : Int) < 60 by omega)
    have h2 := Int.tmod_nonneg (a := n.tmod 60 + 60) 60 (by omega)
    exact ⟨((n.tmod 60 + 60).tmod 60).toNat, by omega, by omega⟩
  have hF : ∃ g : Nat, f.tmod 50 = (g : Int) ∧ g < 50 := by
    have h1 := Int.tmod_lt_of_pos f (show (0 : Int) < 50 by omega)
    have h2 := Int.tmod_nonneg (a := f) 50 (by omega)
    exact ⟨(f.tmod 50).toNat, by omega, by omega⟩
  obtain ⟨N, eN, hN⟩ := hN
  obtain ⟨g, eg, hg⟩ := hF
  simp only [eN, eg]
  rw [w_u64 (n := 18446744073709551615 - (g : Int)) (by omega) (by omega), w_i64 (n := (g : Int)) (by omega) (by omega)]
  have emin : (if (if (g : Int) < 32 then (g : Int) else 32) < (N : Int) then (if (g : Int) < 32 then (g : Int) else 32) else (N : Int)) = ((min N (min 32 g) : Nat) : Int) := by
    split <;> split <;> (try split) <;> omega
  simp only [emin]
  refine (c_ends (18446744073709551615 - (g : Int)) 1).call C trivial fun b m1 w2 hk hm _ C => ⟨_, _, rfl, hk.size, ?_⟩
  obtain ⟨b1, b2⟩ := b
  refine ⟨fun ok i w' _ => ∃ (j : Nat) (x : Lk) (m : Mem), i = j ∧ j ≤ N ∧ ok = ((min j (min 32 g) : Nat) : Int) ∧ x.W.length = min j (min 32 g) ∧ x.next = 18446744073709551615 - (g : Int) + ((min j (min 32 g) : Nat) : Int) ∧ (∀ s ∈ x.W, s.told = false) ∧ x.owed = false ∧ LkM m x ∧
    Ctx [] (memOf w) w w' [] m [lkA b1 x, lkA b2 (lk0 2 3 1 1 (18446744073709551615 - (g : Int)) 1)], fun _ i _ => (60 - i).toNat,
    ⟨0, lk0 1 1 2 3 (18446744073709551615 - (g : Int)) 1, m1, rfl, by omega, by simp, by simp, by simp, by simp, rfl, ⟨by simp, by simp⟩, C⟩, ?_⟩
  rintro ok i w9 L10 _ ⟨j, x, m, rfl, hj, rfl, hl, hx, hto, how, hM, D⟩
  have e1 : IntKind.wrap .i64 ((j : Int) + 1) = ((j + 1 : Nat) : Int) := by rw [w_i64 (by omega) (by omega)]; omega
  have eu : IntKind.wrap .u64 (j : Int) = (j : Int) := w_u64 (by omega) (by omega)
  by_cases hlt : j < N
  · rw [if_pos (by simpa using hlt)]
    have hmeas : Nat.le (((60 : Int) - IntKind.wrap .i64 ((j : Int) + 1)).toNat + 1) ((60 : Int) - (j : Int)).toNat := by rw [e1]; exact Nat.le_of_eq (by omega)
    have hbj : ∃ u : UInt8, IntKind.wrap .u8 (j : Int) = (u.toNat : Int) := ⟨UInt8.ofNat j, by rw [w_u8 (by omega) (by omega)]; have : (UInt8.ofNat j).toNat = j % 256 := rfl; rw [this, Nat.mod_eq_of_lt (by omega)]⟩
    obtain ⟨u, hu⟩ := hbj
    obtain ⟨D1, hm1⟩ := D.newShare (byV [u]) 5 (0, 0)
    have hd : BrM (m.plus w9.heap.size (byV [u])) ⟨[u], some ⟨w9.heap.size, 0, none⟩, 1⟩ :=
      ⟨MSrc.mk (by simp [byV]) (fun a ha => by injection ha with ha; subst ha; exact Mem.plus_cells _ _ _ _ _ fun j v h => by rw [Nat.zero_add]; exact h) (fun h => by cases h), by simp⟩
    rw [hu]
    refine (c_Send b1 x ⟨[u], some ⟨w9.heap.size, 0, none⟩, 1⟩).call D1 ⟨hd, hM.mono hm1⟩ fun nb m2 w23 hk hm2 hs D => ⟨_, rfl, hk.size, ?_⟩
    obtain ⟨hn1, hn2, hn3⟩ := hs
    refine D.gives (c_num _) fun w26 k26 D => ⟨_, rfl, k26.size, ?_⟩
    rw [eu]
    by_cases hA : j < 32 ∧ j < g
    · have hE : sendE x = 0 := by rw [sendE, if_neg (by rw [hx]; omega), if_neg (by rw [hl]; omega)]
      rw [hE, if_pos (by decide), if_neg (by simp; omega), if_neg (by simp; omega)]
      refine D.gives (c_num _) fun w41 k41 D => ⟨_, rfl, k41.size, ?_⟩
      rw [if_neg (by decide)]
      refine ⟨⟨j + 1, _, m2, e1, by omega, ?_, ?_, ?_, ?_, ?_, hn3, D⟩, hmeas⟩
      · rw [w_i64 (by omega) (by omega)]; omega
      · rw [sent0 x nb hE]; simp; omega
      · rw [sent0 x nb hE]
        show IntKind.wrap .u64 (x.next + 1) = _
        rw [hx, w_u64 (by omega) (by omega)]; omega
      · rw [sent0 x nb hE]
        intro s hs
        rcases List.mem_append.1 hs with hs | hs
        · exact hto s hs
        · simp only [List.mem_singleton] at hs; subst hs; rfl
      · rw [sent0 x nb hE]; exact how
    have hsame : sendE x ≠ 0 → x.sent nb = x := fun h => by rw [Lk.sent, if_neg h]
    have hinv : sendE x ≠ 0 → ∀ w', Ctx [] (memOf w) w w' [] m2 [lkA b1 (x.sent nb), lkA b2 (lk0 2 3 1 1 (18446744073709551615 - (g : Int)) 1)] → ∃ (j' : Nat) (x : Lk) (m : Mem), IntKind.wrap .i64 ((j : Int) + 1) = j' ∧ j' ≤ N ∧ ((min j (min 32 g) : Nat) : Int) = ((min j' (min 32 g) : Nat) : Int) ∧ x.W.length = min j' (min 32 g) ∧ x.next = 18446744073709551615 - (g : Int) + ((min j' (min 32 g) : Nat) : Int) ∧ (∀ s ∈ x.W, s.told = false) ∧ x.owed = false ∧ LkM m x ∧
        Ctx [] (memOf w) w w' [] m [lkA b1 x, lkA b2 (lk0 2 3 1 1 (18446744073709551615 - (g : Int)) 1)] := fun h w' D => by
      rw [hsame h] at D hn3
      exact ⟨j + 1, x, m2, e1, by omega, by omega, by omega, by rw [hx]; omega, hto, how, hn3, D⟩
    by_cases hB : g ≤ 32 ∧ g ≤ j
    · have hE : sendE x = 11 := by rw [sendE, if_pos (by rw [hx]; omega)]
      rw [hE, if_neg (by decide)]
      by_cases h32 : 32 ≤ j
      · rw [if_pos (by simp; omega), if_pos (by simp; omega)]
        refine D.gives (c_num _) fun w41 k41 D => ⟨_, rfl, k41.size, ?_⟩
        rw [if_neg (by decide)]
        exact ⟨hinv (by rw [hE]; decide) _ D, hmeas⟩
      · rw [if_neg (by simp; omega), if_pos (by simp; omega)]
        refine D.gives (c_num _) fun w41 k41 D => ⟨_, rfl, k41.size, ?_⟩
        rw [if_neg (by decide)]
        exact ⟨hinv (by rw [hE]; decide) _ D, hmeas⟩
    · have hE : sendE x = 10 := by rw [sendE, if_neg (by rw [hx]; omega), if_pos (by rw [hl]; omega)]
      rw [hE, if_neg (by decide), if_pos (by simp; omega), if_neg (by simp; omega)]
      refine D.gives (c_num _) fun w41 k41 D => ⟨_, rfl, k41.size, ?_⟩
      rw [if_neg (by decide)]
      exact ⟨hinv (by rw [hE]; decide) _ D, hmeas⟩
  · rw [if_neg (by simpa using hlt)]
    have hjN : j = N := by omega
    subst hjN
    refine (c_Waiting b1 x).call D trivial fun _ m2 w12 hk hm2 _ D => ⟨_, rfl, hk.size, ?_⟩
    rw [hl, if_pos (by simp)]
    refine (c_Out b1 x 0 (by omega)).call D (hM.mono hm2) fun o m3 w15 hk hm3 ho D => ⟨_, _, _, rfl, hk.size, ?_⟩
    have hol : o.1.length = min 8 (min j (min 32 g)) := by
      have := congrArg List.length ho.1
      rw [List.length_map, outs_len x 0 hto how, hl] at this
      exact this
    rw [hol, if_pos (by simp; split <;> omega)]
    refine c_knows.call (As := [lkA b1 (x.told 0), pksA o.2.1 o.2.2 o.1, lkA b2 (lk0 2 3 1 1 (18446744073709551615 - (g : Int)) 1)]) D trivial fun _ m4 w20 hk hm4 _ D => ⟨_, rfl, hk.size, rfl, D.at_⟩
end Go.Proofs
