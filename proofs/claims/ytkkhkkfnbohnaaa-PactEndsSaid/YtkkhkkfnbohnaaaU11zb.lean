import Derived.Test.YtkkhkkfnbohnaaaU11za
import Derived.Test.YtkkhkkfnbohnaaaU11y
import Derived.Test.YtkkhkkfnbohnaaaV11h
set_option linter.unusedVariables false
set_option linter.unusedSimpArgs false
set_option maxRecDepth 10000
namespace Go.Proofs
open Go X RowKit
theorem c_MissDec (b mp : Nat) (x : Pp) (h2 : x.ph = 2) : Ctr Try.prog 42 #[.pointer (some ⟨b, 0, none⟩)] noMem (ppA b mp x) (fun _ : Unit => .slice none 0 0) (fun _ _ => True) (fun _ => ppA b mp x) := by
  refine Ctr.mk fun w F m C hx => x_Missing _ w _ ?_
  have C0 : Ctx F m w _ [] m (blk w.heap.size [.pointer (some ⟨b, 0, none⟩)] 59 :: ppA b mp x) := C.alloc [.pointer (some ⟨b, 0, none⟩)] 59
  refine ⟨some ⟨b, 0, none⟩, C0.blkCell (j := 0) rfl, ?_⟩
  refine (c_PnoneB b mp x).call (As := [blk w.heap.size [.pointer (some ⟨b, 0, none⟩)] 59, gtA mp x.got]) (C0.pm [1, 0, 2] rfl) trivial fun _ m1 w3 hk hm _ C => ⟨_, rfl, hk.size, ?_⟩
  have C1 : Ctx F m w w3 [] m1 (blk w.heap.size [.pointer (some ⟨b, 0, none⟩)] 59 :: ppA b mp x) := Ctx.pm (As := [ppB b x mp, blk w.heap.size [.pointer (some ⟨b, 0, none⟩)] 59, gtA mp x.got]) C [1, 0, 2] rfl
  rw [if_pos (by decide)]
  refine ⟨some ⟨b, 0, none⟩, C1.blkCell (j := 0) rfl, ?_⟩
  rw [onSome_some]
  refine ⟨x.ph, by rw [Addr.add_mid]; exact C1.swap.blkCell (j := 4) rfl, ?_⟩
  rw [if_pos (by simp [h2])]
  exact Ctr.ret (m' := m1) () rfl trivial C1.drop
theorem Fc.beg.jn {F : Fc} {n : Nat} (h : F.beg n 5) (h1 : 1 ≤ n) (h5 : n ≤ 5) : Jn F.er 0 := by
  have i0 := h.inv h1 h5
  refine ⟨i0.n1, i0.n5, by omega, fun i => ?_, fun i => ?_⟩
  · show (aE (F.a i)).pr < _
    by_cases hi : i < 5
    · obtain ⟨b, hb⟩ := h.a i hi
      rw [hb]; show (0 : Int) < bal (0 + 1) 0; decide
    · rw [h.z i (by omega)]; show (0 : Int) < bal (0 + 1) 0; decide
  · show balE (poE (F.p i)) < _
    rw [h.p i]; show (0 : Int) < bal (0 + 1) 0; decide
section
variable {F0 : List Nat} {m0 : Mem} {w0 w : World} {L : List Nat} {m : Mem} {As : List Asn} {F : Fc} {fb i : Nat}
theorem fcE (C : Ctx F0 m0 w0 w L m (blk fb F.cells 94 :: As)) : FactsW [(⟨fb, 6, none⟩, [ptP (F.p 0)]), (⟨fb, 0, none⟩, [.int .i64 (F.n : Int)])] w L := C.blkFact1 6 _ rfl (C.blkFact1 0 _ rfl (facts_nil _ _))
end
set_option maxHeartbeats 4000000 in
theorem l_PactEnds (w : World) (n : Int) (q : Sl) (l : List St) (wish : Int) (hm : MSrc (memOf w) 5 (slV q l.length) l.length (l.flatMap St.row)) :
    Calls Try.prog 5 #[.int .i64 n, slV q l.length, .int .i64 wish] w (LawR w) := by
  refine x_PactEnds _ _ _ _ _ w _ ?_
  have C := lawStart w
  by_cases hl : l.length ≤ 60
  rotate_left
  · rw [if_neg (by simp; omega)]
    exact c_knows.call (As := []) C trivial fun _ m2 w5 hk hm2 _ C => ⟨_, rfl, hk.size, rfl, C.at_⟩
  rw [if_pos (by simp; omega)]
  refine c_knows.call (As := []) C trivial fun _ m2 w5 hk hm2 _ C => ⟨_, rfl, hk.size, ?_⟩
  rw [if_neg (by decide)]
  have e5 : IntKind.wrap .i64 (1 + ((IntKind.i64.wrap (n.tmod 5 + 5)).tmod 5)) = ((ix 5 n + 1 : Nat) : Int) := by
    have h1 : (IntKind.i64.wrap (n.tmod 5 + 5)).tmod 5 = (ix 5 n : Nat) := ix_eq (n := 5) (by omega) (by omega) n
    have h2 : ix 5 n < 5 := ix_lt (by omega) _
    rw [h1, w_i64 (by omega) (by omega)]; omega
  rw [e5]
  have hN : ix 5 n + 1 ≤ 5 := by have : ix 5 n < 5 := ix_lt (by omega) n; omega
  have hN1 : 1 ≤ ix 5 n + 1 := by omega
  generalize ix 5 n + 1 = N at *
  clear e5
  have D0 : Ctx [] (memOf w) w _ [] m2 ((fc0 N).as w5.heap.size) := C.noL.alloc (fc0 N).cells 94
  clear C
  simp only [Addr.add_mid, Nat.mul_one, Nat.zero_add]
  generalize w5.heap.size = fb at *
  refine ⟨fun i w' L' => ∃ (j : Nat) (F : Fc) (m' : Mem), i = j ∧ j ≤ 5 ∧ F.beg N j ∧ m2.le m' ∧ Ctx [] (memOf w) w w' L' m' (F.as fb), fun i _ => (5 - i).toNat, ⟨0, fc0 N, m2, rfl, by omega, ⟨rfl, by simp, fun _ _ => rfl, fun _ => rfl, fun _ => rfl, fun _ => rfl⟩, Mem.le_refl _, D0⟩, ?_⟩
  clear D0
  rintro i w10 L11 _ ⟨j, F, m3, rfl, hj, hb, hm3, C⟩
  by_cases hj5 : j < 5
  · rw [if_pos (by simp; omega)]
    refine ⟨[], facts_nil _ _, fun w97 h97 => ?_⟩
    refine c_NewAcc.call (As := F.as fb) (C.noL.hid0 h97) trivial fun b m4 w99 hk hm4 _ C => ⟨_, rfl, hk.size, by omega, by omega, ?_⟩
    have C1 : Ctx [] (memOf w) w w99 [] m4 (blk fb F.cells 94 :: ((F.aR ++ F.pR) ++ [aA b acp0])) := C.perm (List.perm_append_comm (l₁ := [aA b acp0]) (l₂ := F.as fb))
    have C2 := putA (z := some (b, acp0)) (i := j) (F := F) (storeA C1 hj5 (some (b, acp0))) hj5
    rw [Int.toNat_natCast]
    refine ⟨trivial, C1.there (1 + j) 1 (by rw [F.len]; omega), ?_⟩
    have e : IntKind.wrap .i64 ((j : Int) + 1) = ((j + 1 : Nat) : Int) := by rw [w_i64 (by omega) (by omega)]; omega
    rw [e]
    exact ⟨⟨j + 1, _, m4, rfl, hj5, hb.next b, hm3.le_trans hm4, C2⟩, Nat.le_of_eq (by show ((5 : Int) - ((j + 1 : Nat) : Int)).toNat + 1 = ((5 : Int) - (j : Int)).toNat; omega)⟩
  rw [if_neg (by simp; omega)]
  have hj2 : j = 5 := by omega
  subst hj2
  -- the steps
  refine ⟨fun top i w' L' => ∃ (j : Nat) (F : Fc) (m' : Mem), i = j ∧ j ≤ l.length ∧ 0 ≤ top ∧ top ≤ j ∧ m2.le m' ∧ F.ok ∧ F.M m' ∧ F.n = N ∧ Jn F.er top ∧ Ctx [] (memOf w) w w' L' m' (F.as fb),
    fun _ i _ => ((l.length : Int) - i).toNat, ⟨0, F, m3, rfl, by omega, by omega, by omega, hm3, hb.ok hN1 hN, hb.M m3, hb.n, hb.jn hN1 hN, C.noL⟩, ?_⟩
  clear C hb hm3
  rintro top i w16 L17 _ ⟨j, F1, m4, rfl, hjl, ht0, htj, hm4, hF, hM, hFn, hJ, C⟩
  by_cases hjl2 : j < l.length
  · rw [if_pos (by simp; omega)]
    obtain ⟨a0, ha0, hc⟩ := (hm.mono (hm2.le_trans hm4)).elem st_len hjl2
    refine ⟨by omega, by simpa using hjl2, ?_⟩
    rw [ha0, onSome_some]
    refine ⟨_, _, _, _, _, by rw [Int.toNat_natCast]; exact C.cells hc, ?_⟩
    refine call0 (c_step F1 fb l[j] top hF ⟨ht0, by omega⟩) C hM fun G m5 w34 hk hm5 hG C => ⟨_, rfl, hk.size, ?_⟩
    obtain ⟨hMG, hoG, heG⟩ := hG
    obtain ⟨hn1, hn2⟩ := top_n (e := F1.er) (s := l[j]) (top := top)
    have hGn : G.n = F1.n := by
      have := congrArg Fe.n heG
      rw [ok_n] at this
      exact this
    have hJ2 := hJ.step l[j]
    rw [← heG] at hJ2
    have e : IntKind.wrap .i64 ((j : Int) + 1) = ((j + 1 : Nat) : Int) := by rw [w_i64 (by omega) (by omega)]; omega
    rw [e]
    exact ⟨⟨j + 1, G, m5, rfl, hjl2, by omega, by omega, hm4.le_trans hm5, hoG, hMG, by rw [hGn, hFn], hJ2, C.noL⟩, Nat.le_of_eq (by show ((l.length : Int) - ((j + 1 : Nat) : Int)).toNat + 1 = ((l.length : Int) - (j : Int)).toNat; omega)⟩
  rw [if_neg (by simp; omega)]
  -- who holds
  refine ⟨fun b i w' L' => ∃ (k : Nat) (m' : Mem), i = k ∧ k ≤ N ∧ m4.le m' ∧ (b = false → ∀ j, j < k → (F1.er.a j).ac = 0) ∧ Ctx [] (memOf w) w w' L' m' (F1.as fb), fun _ i _ => ((N : Int) - i).toNat, ⟨0, m4, rfl, by omega, Mem.le_refl _, fun _ j hj => by omega, C.noL⟩, ?_⟩
  clear C
  rintro b20 i w22 L23 _ ⟨k, m5, rfl, hk, hm5, hac, C⟩
  have hwk : ∀ {k : Nat}, k ≤ 5 → IntKind.wrap .i64 ((k : Int) + 1) = ((k + 1 : Nat) : Int) := fun hk => by rw [w_i64 (by omega) (by omega)]; omega
  refine ⟨F1.n, C.blkCell (j := 0) rfl, ?_⟩
  by_cases hkN : k < N
  · rw [if_pos (by simp; omega)]
    have hk5 : k < 5 := by omega
    obtain ⟨z, hz⟩ := hF.a k hk5
    refine ⟨by omega, by omega, some ⟨z.1, 0, none⟩, by have := C.blkCell (Fc.cellA hk5); rw [hz] at this; rw [Int.toNat_natCast]; exact this, ?_⟩
    refine call0 (fA0 hk5 hz (c_Held z.1 _)) C ((hM.a k z hz).mono hm5) fun u m6 w86 hkk hm6 hu C => ⟨_, _, _, _, _, _, _, _, rfl, hkk.size, fun w95 L96 h95 g95 => ?_⟩
    rw [hwk (by omega)]
    refine ⟨⟨k + 1, m6, rfl, hkN, hm5.le_trans hm6, fun h0 j hj => ?_, C.noL.hidL h95 g95⟩, Nat.le_of_eq (by show ((N : Int) - ((k + 1 : Nat) : Int)).toNat + 1 = ((N : Int) - (k : Int)).toNat; omega)⟩
    rw [Bool.or_eq_false_iff] at h0
    by_cases hjk : j < k
    · exact hac h0.1 j hjk
    · have : j = k := by omega
      subst this
      show (aE (F1.a j)).ac = 0
      rw [hz]
      simpa [aE, Acp.er] using h0.2
  rw [if_neg (by simp; omega)]
  have hkN2 : k = N := by omega
  subst hkN2
  have hn1 := hJ.n1
  -- it begins
  refine call0 (c_step F1 fb ⟨0, 0, 0, 0, 0⟩ top hF ⟨ht0, by omega⟩) C (hM.mono hm5) fun G m6 w26 hkk hm6 hG C => ⟨_, rfl, hkk.size, ?_⟩
  obtain ⟨hMG, hoG, heG⟩ := hG
  have hen : F1.er.n = k := hFn
  have hP := pi_start hJ b20 (by rw [hen]; exact hac)
  rw [← heG, hen] at hP
  generalize bal (top + 1) 0 = bb at *
  refine ⟨fun i w' L' => ∃ (j : Nat) (F : Fc) (m' : Mem), i = j ∧ j ≤ k ∧ F.ok ∧ F.M m' ∧ PI k bb b20 j F.er ∧ Ctx [] (memOf w) w w' L' m' (F.as fb), fun i _ => ((k : Int) - i).toNat, ⟨0, G, m6, rfl, by omega, hoG, hMG, hP, C.noL⟩, ?_⟩
  clear C hP heG hoG hMG hM hJ hac hm5 hF
  rintro i w31 L32 _ ⟨j, F2, m7, rfl, hj, hF, hM, hP, C⟩
  have hF2n : F2.n = k := hP.en
  refine ⟨F2.n, C.blkCell (j := 0) rfl, ?_⟩
  by_cases hjk : j < k
  · rw [if_pos (by simp; omega)]
    refine call0 (c_step F2 fb ⟨1, j, 0, 0, 0⟩ top hF ⟨ht0, by omega⟩) C hM fun G m8 w82 hkk hm8 hG C => ⟨_, rfl, hkk.size, ?_⟩
    obtain ⟨hMG, hoG, heG⟩ := hG
    have h2 := pi_step hP hjk top
    rw [← heG] at h2
    rw [hwk (by omega)]
    exact ⟨⟨j + 1, G, m8, rfl, hjk, hoG, hMG, h2, C.noL⟩, Nat.le_of_eq (by show ((k : Int) - ((j + 1 : Nat) : Int)).toNat + 1 = ((k : Int) - (j : Int)).toNat; omega)⟩
  rw [if_neg (by simp; omega)]
  have hjk2 : j = k := by omega
  subst hjk2
  refine call0 (c_step F2 fb ⟨2, 0, 0, wish, 0⟩ top hF ⟨ht0, by omega⟩) C hM fun G m8 w35 hkk hm8 hG C => ⟨_, rfl, hkk.size, ?_⟩
  obtain ⟨hMG, hoG, heG⟩ := hG
  have hA := ai_prop hP hN1 wish top
  rw [← heG] at hA
  refine ⟨fun i w' L' => ∃ (i' : Nat) (F : Fc) (m' : Mem), i = i' ∧ i' ≤ j ∧ F.ok ∧ F.M m' ∧ AI j bb b20 i' F.er ∧ Ctx [] (memOf w) w w' L' m' (F.as fb), fun i _ => ((j : Int) - i).toNat, ⟨0, G, m8, rfl, by omega, hoG, hMG, hA, C.noL⟩, ?_⟩
  clear C hA heG hoG hMG hM hP hF
  rintro i w40 L41 _ ⟨t, F3, m9, rfl, ht, hF, hM, hA, C⟩
  have hF3n : F3.n = j := hA.en
  refine ⟨F3.n, C.blkCell (j := 0) rfl, ?_⟩
  by_cases htj : t < j
  · rw [if_pos (by simp; omega)]
    refine call0 (c_step F3 fb ⟨3, t, 0, 0, 0⟩ top hF ⟨ht0, by omega⟩) C hM fun G m8 w82 hkk hm8 hG C => ⟨_, rfl, hkk.size, ?_⟩
    obtain ⟨hMG, hoG, heG⟩ := hG
    have h2 := ai_step hA htj top
    rw [← heG] at h2
    rw [hwk (by omega)]
    exact ⟨⟨t + 1, G, m8, rfl, htj, hoG, hMG, h2, C.noL⟩, Nat.le_of_eq (by show ((j : Int) - ((t + 1 : Nat) : Int)).toNat + 1 = ((j : Int) - (t : Int)).toNat; omega)⟩
  rw [if_neg (by simp; omega)]
  have htj2 : t = j := by omega
  subst htj2
  obtain ⟨pq, hpq, hp2, hpc⟩ := ai_end hA hN1
  obtain ⟨z, hz, hze⟩ : ∃ z, F3.p 0 = some z ∧ z.2.2.er = pq := by
    have hpq' : poE (F3.p 0) = some pq := hpq
    cases h : F3.p 0 with
    | none => rw [h] at hpq'; cases hpq'
    | some z => rw [h] at hpq'; injection hpq' with e; exact ⟨z, rfl, e⟩
  have hzp : z.2.2.ph = 2 := by
    have := congrArg Pe.ph hze
    rw [hp2] at this
    exact this
  refine ⟨by omega, by omega, _, C.blkCell (j := 6) rfl, ?_⟩
  refine call0 (f_Value (F := F3) (i := 0) (by omega)) C (hM.p 0) fun u m10 w45 hkk hm10 hu C => ⟨_, _, _, _, _, _, rfl, hkk.size, _, fcE C.noL, by omega, by omega, _, by simp; rfl, fun w54 L55 h54 g54 => ?_⟩
  have hue : u.er = pq.ch := by
    have : poE (F3.p 0) = some pq := hpq
    rw [hu.2, this]; rfl
  refine call0 (f_Phase (F := F3) (i := 0) (by omega)) (C.noL.hidL h54 g54) trivial fun _ m11 w57 hkk hm11 _ C => ⟨_, rfl, hkk, fcE C, _, fcE C, fun _ h => h, ?_⟩
  rw [if_pos (by rw [hz]; simp [phO, hzp])]
  refine ⟨by omega, by omega, some ⟨z.1, 0, none⟩, by simp [hz], ?_⟩
  refine call0 (fP0 (F := F3) (i := 0) (by omega) hz (c_MissDec z.1 z.2.1 z.2.2 hzp)) C trivial fun _ m12 w67 hkk hm12 _ C => ⟨_, _, _, rfl, hkk, fcE C, _, fcE C, fun _ h => h, ?_⟩
  rw [if_pos (by decide)]
  by_cases hb : b20 = false
  · rw [if_pos (by simp [hb])]
    refine ⟨F3.n, by simp, ?_, C.at_⟩
    obtain ⟨c1, c2⟩ := hpc hb
    have d1 : u.ms.length = 1 := by
      have := congrArg (fun x => x.1.length) hue
      simpa [Vl.er, c1] using this
    have d2 : u.ts.length = t - 1 := by
      have := congrArg (fun x => x.2.length) hue
      simpa [Vl.er, c2] using this
    rw [d1, d2, hF3n, w_i64 (by omega) (by omega)]
    have e1 : (((t - 1 : Nat) : Int) == (t : Int) - 1) = true := by rw [beq_iff_eq]; omega
    rw [e1]
    rfl
  · rw [if_neg (by simpa using hb)]
    exact ⟨_, fcE C, fun _ h => h, rfl, C.at_⟩
end Go.Proofs
