import Derived.Test.YtdmiblfckigjoaaDoorU05d
set_option linter.unusedVariables false
set_option linter.unusedSimpArgs false
set_option maxRecDepth 10000
namespace Go.Proofs
open Go X RowKit
/-! ### identifiers and entries as text -/
def ReadsT (f : FuncId) (args : Array Value) (pre : Mem → Prop) (V : Value) : Prop := ∀ w m, Tab w → (∀ a v, m a = some v → w.cell? a = some v) → pre m → GivesAt Tryd.prog f args w V
theorem ctx_reads {m0 : Mem} {w0 w : World} {L : List Nat} {m : Mem} {As : List Asn} {f : FuncId} {args : Array Value} {pre : Mem → Prop} {V : Value} {R : Ending → World → Prop} (C : Ctx [] m0 w0 w L m As) (hT : Tab w0) (h : ReadsT f args pre V) (hp : pre m)
    (k : ∀ w', Kept L w w' → Ctx [] m0 w0 w' L m As → R (.returned V) w') : CallX Tryd.prog f args w R :=
  (h w m (tab_bel hT (ctx_bel C)) (fun a v e => C.cell e) hp).call fun w' hb => k w' (C.kept hb) (C.below hb)
def I.st (d : I) : List (Int × Int) := [(d.g0, d.i0), (d.g1, d.i1), (d.g2, d.i2)]
def stL (p : Int × Int) : List UInt8 := [47] ++ Lib.itoa p.1 ++ [46] ++ Lib.itoa p.2
def idL (d : I) : List UInt8 := Lib.itoa d.n ++ [46] ++ Lib.itoa d.l ++ [47] ++ Lib.itoa d.s ++ (d.st.take d.d.toNat).flatMap stL
theorem c_pair (a b : Int) (ha : -9223372036854775808 ≤ a ∧ a ≤ 9223372036854775807) (hb : -9223372036854775808 ≤ b ∧ b ≤ 9223372036854775807) : GivesT 48 #[.int .i64 a, .int .i64 b] (.string (toBA (Lib.itoa a ++ [46] ++ Lib.itoa b))) := by
  intro w hT
  refine x_pair _ _ w _ ?_
  have s1 := it_size a ha.1 ha.2
  have s2 := it_size b hb.1 hb.2
  refine ctx_givesT (lawStart w) hT (c_Itoa a ha.1 ha.2) fun w2 k2 C => ⟨_, rfl, k2.size, by omega, ?_⟩
  refine ctx_givesT C hT (c_Itoa b hb.1 hb.2) fun w5 k5 C => ⟨_, rfl, k5.size, ?_, ?_, ctx_bel C⟩
  · rw [ByteArray.size_append]
    have : (ByteArray.mk #[OfNat.ofNat 46]).size = 1 := rfl
    omega
  · have : itB a ++ ByteArray.mk #[OfNat.ofNat 46] ++ itB b = toBA (Lib.itoa a ++ [46] ++ Lib.itoa b) := by
      show toBA _ ++ toBA [46] ++ toBA _ = _
      rw [toBA_app, toBA_app]
    rw [this]
theorem pair_size (a b : Int) (ha : -9223372036854775808 ≤ a ∧ a ≤ 9223372036854775807) (hb : -9223372036854775808 ≤ b ∧ b ≤ 9223372036854775807) : (toBA (Lib.itoa a ++ [46] ++ Lib.itoa b)).size ≤ 50 := by
  have s1 := it_size a ha.1 ha.2
  have s2 := it_size b hb.1 hb.2
  have e : toBA (Lib.itoa a ++ [46] ++ Lib.itoa b) = itB a ++ toBA [46] ++ itB b := by
    show _ = toBA _ ++ toBA [46] ++ toBA _
    rw [toBA_app, toBA_app]
  rw [e, ByteArray.size_append, ByteArray.size_append]
  have : (toBA [46]).size = 1 := rfl
  omega
theorem st_cells (d : I) (hd : d.In) (j : Nat) (hj : j < 3) : ∃ g i : Int, d.st[j]? = some (g, i) ∧ (0 ≤ g ∧ g < 256) ∧ (0 ≤ i ∧ i < 256) ∧ ∀ k v, [Value.int .u8 g, .int .u8 i][k]? = some v → d.row[4 + j * 2 + k]? = some v := by
  have : j = 0 ∨ j = 1 ∨ j = 2 := by omega
  rcases this with rfl | rfl | rfl
  · refine ⟨d.g0, d.i0, rfl, hd.g0, hd.i0, fun k v h => ?_⟩
    rcases k with _ | _ | k
    · exact h
    · exact h
    · simp at h
  · refine ⟨d.g1, d.i1, rfl, hd.g1, hd.i1, fun k v h => ?_⟩
    rcases k with _ | _ | k
    · exact h
    · exact h
    · simp at h
  · refine ⟨d.g2, d.i2, rfl, hd.g2, hd.i2, fun k v h => ?_⟩
    rcases k with _ | _ | k
    · exact h
    · exact h
    · simp at h
theorem take_min (d : I) (h0 : 0 ≤ d.d) : d.st.take (if (3 : Int) < d.d then 3 else d.d).toNat = d.st.take d.d.toNat := by
  by_cases h : (3 : Int) < d.d
  · rw [if_pos h, List.take_of_length_le (by show 3 ≤ _; omega), List.take_of_length_le (by show 3 ≤ _; omega)]
  · rw [if_neg h]
theorem c_ename (d : I) (hd : d.In) : GivesT 49 #[d.V] (.string (toBA (idL d))) := by
  intro w hT
  refine x_ename _ _ _ _ _ _ _ _ _ _ w _ ?_
  have C := (lawStart w).alloc d.row 44
  have hf : ∀ {w' : World} {L : List Nat}, Ctx [] (memOf w) w w' L (memOf w) [blk w.heap.size d.row 44] → FactsW [(⟨w.heap.size, 0, none⟩, [.int .u8 d.n]), (⟨w.heap.size, 0 + 1, none⟩, [.int .u16 d.l]), (⟨w.heap.size, 0 + 2, none⟩, [.int .u32 d.s])] w' L := fun C => C.blkFact1 0 _ rfl (C.blkFact1 1 _ rfl (C.blkFact1 2 _ rfl (facts_nil _ _)))
  have hn := hd.n
  have hl := hd.l
  have hs := hd.s
  have hdd := hd.d
  refine ⟨_, hf C, _, List.mem_cons_self, _, List.mem_cons_of_mem _ List.mem_cons_self, _, List.mem_cons_of_mem _ (List.mem_cons_of_mem _ List.mem_cons_self), fun w5 h5 => ?_⟩
  rw [w_i64 (n := d.n) (by omega) (by omega), w_i64 (n := d.l) (by omega) (by omega), w_i64 (n := d.s) (by omega) (by omega)]
  have z1 := pair_size d.n d.l (by omega) (by omega)
  have z2 := it_size d.s (by omega) (by omega)
  have o47 : (ByteArray.mk #[OfNat.ofNat 47]).size = 1 := rfl
  refine ctx_givesT (C.hid0 h5) hT (c_pair d.n d.l (by omega) (by omega)) fun w7 k7 C => ⟨_, rfl, k7.size, hf C, by omega, ?_⟩
  refine ctx_givesT C hT (c_Itoa d.s (by omega) (by omega)) fun w10 k10 C => ⟨_, rfl, k10.size, hf C, by rw [ByteArray.size_append]; omega, ?_⟩
  refine ⟨d.d, C.blkCell (j := 3) rfl, ?_⟩
  rw [w_i64 (n := d.d) (by omega) (by omega)]
  generalize hK : (if (3 : Int) < d.d then 3 else d.d) = K
  have hK0 : 0 ≤ K ∧ K ≤ 3 := by rw [← hK]; split <;> omega
  refine ⟨by omega, by omega, ?_⟩
  refine ⟨fun s i w' L' => ∃ j : Nat, i = j ∧ j ≤ K.toNat ∧ s.data.toList = Lib.itoa d.n ++ [46] ++ Lib.itoa d.l ++ [47] ++ Lib.itoa d.s ++ (d.st.take j).flatMap stL ∧ s.size ≤ 100 + 100 * j ∧ Ctx [] (memOf w) w w' [] (memOf w) [blk w.heap.size d.row 44], fun _ i _ => (K - i).toNat, ⟨0, rfl, by omega, ?_, ?_, C⟩, ?_⟩
  · simp [bl_app, bl_toBA]
  · rw [ByteArray.size_append, ByteArray.size_append]; omega
  clear C
  rintro s i w17 L18 _ ⟨j, rfl, hj, hs1, hs2, C⟩
  by_cases hjl : j < K.toNat
  · rw [if_pos (by simp only [decide_eq_true_eq]; omega)]
    obtain ⟨g, i, hst, hg, hi, hcl⟩ := st_cells d hd j (by omega)
    refine ⟨by omega, by omega, g, i, by rw [Int.toNat_natCast, Addr.add_mid]; exact C.blkCells (o := 4 + j * 2) hcl, fun w21 L22 h21 g21 => ?_⟩
    rw [w_i64 (n := g) (by omega) (by omega), w_i64 (n := i) (by omega) (by omega)]
    have z3 := pair_size g i (by omega) (by omega)
    refine ctx_givesT (C.hidL h21 g21) hT (c_pair g i (by omega) (by omega)) fun w24 k24 C => ⟨_, rfl, k24, by omega, ?_, ?_, ?_⟩
    · rw [ByteArray.size_append]; omega
    · have e : IntKind.wrap .i64 ((j : Int) + 1) = ((j + 1 : Nat) : Int) := by rw [w_i64 (by omega) (by omega)]; omega
      refine ⟨j + 1, e, hjl, ?_, ?_, C.noL⟩
      · rw [List.take_add_one, hst, bl_app, bl_app, hs1, bl_toBA]
        simp [stL, List.flatMap_append]
      · rw [ByteArray.size_append, ByteArray.size_append]; omega
    · have e : IntKind.wrap .i64 ((j : Int) + 1) = ((j + 1 : Nat) : Int) := by rw [w_i64 (by omega) (by omega)]; omega
      rw [e]; exact Nat.le_of_eq (by show (K - ((j + 1 : Nat) : Int)).toNat + 1 = (K - (j : Int)).toNat; omega)
  · rw [if_neg (by simp only [decide_eq_true_eq]; omega)]
    refine ⟨?_, ctx_bel C⟩
    have : j = K.toNat := by omega
    rw [this, ← hK, take_min d hdd.1] at hs1
    have e : s = toBA (idL d) := bl_ext (by rw [hs1, bl_toBA]; rfl)
    rw [e]
theorem c_ShowID (d : I) (hd : d.In) : Gives Tryd.prog 51 #[d.V] (.string (toBA (idL d))) := by
  intro w
  refine x_ShowID _ _ _ _ _ _ _ _ _ _ w _ ?_
  have C := (lawStart w).alloc d.row 30
  have hf : ∀ {w' : World} {L : List Nat}, Ctx [] (memOf w) w w' L (memOf w) [blk w.heap.size d.row 30] → FactsW [(⟨w.heap.size, 0, none⟩, [.int .u8 d.n]), (⟨w.heap.size, 0 + 1, none⟩, [.int .u16 d.l]), (⟨w.heap.size, 0 + 2, none⟩, [.int .u32 d.s])] w' L := fun C => C.blkFact1 0 _ rfl (C.blkFact1 1 _ rfl (C.blkFact1 2 _ rfl (facts_nil _ _)))
  have hn := hd.n
  have hl := hd.l
  have hs := hd.s
  have hdd := hd.d
  refine ⟨_, hf C, _, List.mem_cons_self, _, List.mem_cons_of_mem _ List.mem_cons_self, _, List.mem_cons_of_mem _ (List.mem_cons_of_mem _ List.mem_cons_self), fun w5 h5 => ?_⟩
  rw [w_i64 (n := d.n) (by omega) (by omega), w_i64 (n := d.l) (by omega) (by omega), w_i64 (n := d.s) (by omega) (by omega)]
  have z0 := it_size d.n (by omega) (by omega)
  have z1 := it_size d.l (by omega) (by omega)
  have z2 := it_size d.s (by omega) (by omega)
  have o47 : (ByteArray.mk #[OfNat.ofNat 47]).size = 1 := rfl
  have o46 : (ByteArray.mk #[OfNat.ofNat 46]).size = 1 := rfl
  refine (C.hid0 h5).gives (c_Digits _ d.n (Nat.le_refl _) (by omega) (by omega)) fun w7 k7 C => ⟨_, rfl, k7.size, hf C, by omega, ?_⟩
  refine C.gives (c_Digits _ d.l (Nat.le_refl _) (by omega) (by omega)) fun w10 k10 C => ⟨_, rfl, k10.size, hf C, ?_⟩
  simp only [ByteArray.size_append, o46, o47]
  refine ⟨by omega, by omega, ?_⟩
  refine C.gives (c_Digits _ d.s (Nat.le_refl _) (by omega) (by omega)) fun w13 k13 C => ⟨_, rfl, k13.size, hf C, ?_⟩
  refine ⟨by omega, ?_⟩
  refine ⟨fun s i w' L' => ∃ j : Nat, i = j ∧ j ≤ 3 ∧ (j : Int) ≤ d.d ∧ s.data.toList = Lib.itoa d.n ++ [46] ++ Lib.itoa d.l ++ [47] ++ Lib.itoa d.s ++ (d.st.take j).flatMap stL ∧ s.size ≤ 100 + 100 * j ∧ Ctx [] (memOf w) w w' [] (memOf w) [blk w.heap.size d.row 30], fun _ i _ => (3 - i).toNat, ⟨0, rfl, by omega, by omega, ?_, ?_, C⟩, ?_⟩
  · simp [bl_app, bl_toBA]
  · simp only [ByteArray.size_append, o46, o47]; omega
  clear C
  rintro s i w19 L20 _ ⟨j, rfl, hj, hjd, hs1, hs2, C⟩
  have fin : (j = 3 ∨ (j : Int) = d.d) → Ending.returned (.string s) = Ending.returned (.string (toBA (idL d))) ∧ Bel w.heap.size w w19 := fun h => by
    refine ⟨?_, ctx_bel C⟩
    have : d.st.take j = d.st.take d.d.toNat := by
      rcases h with h | h
      · rw [List.take_of_length_le (by show 3 ≤ _; omega), List.take_of_length_le (by show 3 ≤ _; omega)]
      · rw [← h, Int.toNat_natCast]
    rw [this] at hs1
    have e : s = toBA (idL d) := bl_ext (by rw [hs1, bl_toBA]; rfl)
    rw [e]
  by_cases h3 : j < 3
  rotate_left
  · rw [if_neg (by simp; omega)]
    exact fin (.inl (by omega))
  rw [if_pos (by simp; omega)]
  refine ⟨d.d, C.blkCell (j := 3) rfl, ?_⟩
  rw [w_i64 (n := d.d) (by omega) (by omega)]
  by_cases hjl : (j : Int) < d.d
  rotate_left
  · rw [if_neg (by simpa using hjl)]
    exact fin (.inr (by omega))
  rw [if_pos (by simpa using hjl)]
  obtain ⟨g, i, hst, hg, hi, hcl⟩ := st_cells d hd j (by omega)
  have hf2 : ∀ {w' : World} {L : List Nat}, Ctx [] (memOf w) w w' L (memOf w) [blk w.heap.size d.row 30] → FactsW [(⟨w.heap.size, 4 + j * 2 + 0, none⟩, [.int .u8 g]), (⟨w.heap.size, 4 + j * 2 + 1, none⟩, [.int .u8 i])] w' L := fun C => C.blkFact1 _ _ (hcl 0 _ rfl) (C.blkFact1 _ _ (hcl 1 _ rfl) (facts_nil _ _))
  refine ⟨_, hf2 C, by omega, by omega, by omega, g, by rw [Int.toNat_natCast, Addr.add_mid, Addr.add_mid]; exact List.mem_cons_self, by omega, by omega, i, by rw [Int.toNat_natCast, Addr.add_mid, Addr.add_mid]; exact List.mem_cons_of_mem _ List.mem_cons_self, fun w25 h25 => ?_⟩
  rw [w_i64 (n := g) (by omega) (by omega), w_i64 (n := i) (by omega) (by omega)]
  have z3 := it_size g (by omega) (by omega)
  have z4 := it_size i (by omega) (by omega)
  refine (C.hid0 h25).gives (c_Digits _ g (Nat.le_refl _) (by omega) (by omega)) fun w27 k27 C => ⟨_, rfl, k27.size, hf2 C, ?_⟩
  simp only [ByteArray.size_append, o46, o47]
  refine ⟨by omega, by omega, ?_⟩
  refine C.gives (c_Digits _ i (Nat.le_refl _) (by omega) (by omega)) fun w30 k30 C => ⟨_, rfl, k30.size, hf2 C, by omega, ?_, ?_⟩
  · have e : IntKind.wrap .i64 ((j : Int) + 1) = ((j + 1 : Nat) : Int) := by rw [w_i64 (by omega) (by omega)]; omega
    refine ⟨j + 1, e, h3, by omega, ?_, ?_, C⟩
    · rw [List.take_add_one, hst, bl_app, bl_app, bl_app, bl_app, hs1, bl_toBA, bl_toBA]
      simp [stL, List.flatMap_append]
    · omega
  · have e : IntKind.wrap .i64 ((j : Int) + 1) = ((j + 1 : Nat) : Int) := by rw [w_i64 (by omega) (by omega)]; omega
    rw [e]; exact Nat.le_of_eq (by show (3 - ((j + 1 : Nat) : Int)).toNat + 1 = (3 - (j : Int)).toNat; omega)
end Go.Proofs
