import Derived.Test.YtmfmihkjkgifiaaU10l
set_option linter.unusedVariables false
set_option linter.unusedSimpArgs false
set_option maxRecDepth 10000
namespace Go.Proofs
open Go X RowKit
/-- a part of an owned slice, read -/
theorem slSub {q : Option Addr} {n c : Nat} {cs : List Value} {ty : TypeId} {sz : Nat} {F0 : List Nat} {m0 : Mem} {w0 w : World} {L : List Nat} {m : Mem} {As : List Asn} (C : Ctx F0 m0 w0 w L m (slA (.slice q n c) n cs ty sz :: As)) (k j c' : Nat) (h : k + j ≤ n) :
    Src w sz (.slice (X.cutA q c k sz) j c') j ((cs.drop (k * sz)).take (j * sz)) := by
  by_cases hj : j = 0
  · subst hj; rw [Nat.zero_mul, List.take_zero]; exact .none ..
  obtain ⟨hc1, hc2, hl⟩ := C.slCap
  have hle : k * sz + j * sz ≤ n * sz := by rw [← Nat.add_mul]; exact Nat.mul_le_mul_right _ h
  cases q with
  | none =>
    have h0 := C.slCells.2 rfl
    rw [h0] at hl ⊢
    have hz : sz = 0 := by
      simp only [List.length_nil] at hl
      rcases Nat.mul_eq_zero.1 hl.symm with h | h
      · omega
      · exact h
    obtain ⟨q', cap', e, _, _, _, hh⟩ := C.slO
    injection e with e1 _ e2
    rcases hh with ⟨h, _⟩ | ⟨b, pre, rest, e, _⟩
    · omega
    · rw [← e1] at e; cases e
  | some a =>
    have hcut : X.cutA (some a) c k sz = some (a.add (k * sz)) := by
      unfold X.cutA
      rw [if_neg (by simpa using fun h => by omega)]
      rfl
    rw [hcut]
    refine .some _ _ _ _ (by rw [List.length_take, List.length_drop]; omega) ?_
    exact cells_part (C.slCells.1 a rfl).1 (k * sz) _ fun i v hi => by
      rw [List.getElem?_take] at hi
      split at hi
      · rw [List.getElem?_drop] at hi; exact hi
      · cases hi
/-! ### a step -/
def Fd.send (f : Fd) (t : Bool) (nb : Br) (body : List UInt8) : Fd := { f with x := up t ((f.x t).sent nb) f.x, S := up t (if sendE (f.x t) = 0 then f.S t ++ [body] else f.S t) f.S }
def FlyOK (first : Int) (f : Fd) : Prop := (∀ p ∈ f.fly, ∃ t, PkFor first f t p) ∧ f.fly.length ≤ 108
theorem PkFor.mono {first : Int} {f g : Fd} {t : Bool} {p : Pk} (h : PkFor first f t p) (hS : ∀ u (j : Nat) b, (f.S u)[j]? = some b → (g.S u)[j]? = some b) (hC : ∀ u, (f.C u).length ≤ (g.C u).length) : PkFor first g t p :=
  ⟨h.fn, h.fl, h.tn, h.tl, h.ok.mono (hS _) (hC _)⟩
theorem app_get {S : Bys} {b : List UInt8} {j : Nat} {v : List UInt8} (h : S[j]? = some v) : (S ++ [b])[j]? = some v := by
  rw [List.getElem?_append_left (List.getElem?_eq_some_iff.1 h).1]; exact h
theorem FI.send {first ag : Int} {ns ne nn : Nat} {f : Fd} {k : Bool → Nat} (h0 : 0 ≤ first) (hS : first + (ns : Int) + 1 < 18446744073709551616) (h : FI first ag ns ne nn f k) (t : Bool) {nb : Br} {body : List UInt8} (hb : nb.bs = body) : FI first ag (ns + 1) ne nn (f.send t nb body) k := by
  by_cases hE : sendE (f.x t) = 0
  · have hsent := sent0 (f.x t) nb hE
    have hd := h.dir t
    have hSl := h.SL t
    have hw32 : (f.x t).W.length < 32 := by
      unfold sendE at hE
      by_cases h1 : (f.x t).next = 18446744073709551615
      · rw [if_pos h1] at hE; cases hE
      · rw [if_neg h1] at hE
        by_cases h2 : 32 ≤ (f.x t).W.length
        · rw [if_pos h2] at hE; cases hE
        · omega
    have hgr : ∀ j b, (f.S t)[j]? = some b → ((f.S t) ++ [body])[j]? = some b := fun j b h => app_get h
    refine ⟨all_b t ?_ ?_, all_b t ?_ ?_, h.kC, all_b t ?_ ?_, all_b t ?_ ?_, all_b t ?_ ?_, all_b t ?_ ?_, h.now0, h.now1⟩
    · simp only [Fd.send, up_same, if_pos hE, hsent]
      refine ⟨?_, ?_, ?_, fun i s hs => ?_⟩
      · show IntKind.wrap .u64 ((f.x t).next + 1) = _
        rw [hd.nx, w_u64s h0 (by omega)]; simp
      · simp only [List.length_append, List.length_singleton]; have := hd.len; omega
      · simp only [List.length_append, List.length_singleton]; omega
      · simp only at hs
        by_cases hi : i < (f.x t).W.length
        · rw [List.getElem?_append_left hi] at hs
          obtain ⟨g1, g2⟩ := hd.row i s hs
          exact ⟨g1, app_get g2⟩
        · have hi2 := (List.getElem?_eq_some_iff.1 hs).1
          simp only [List.length_append, List.length_singleton] at hi2
          have : i = (f.x t).W.length := by omega
          subst this
          simp only [List.getElem?_append_right (Nat.le_refl _), Nat.sub_self, List.getElem?_cons_zero, Option.some.injEq] at hs
          subst hs
          have hl := hd.len
          refine ⟨by rw [hd.nx]; simp only; omega, ?_⟩
          rw [hl, List.getElem?_append_right (Nat.le_refl _), Nat.sub_self]
          simp [hb]
    · simp only [Fd.send, up_not]; exact h.dir _
    · simp only [Fd.send, up_same, up_not, hsent]; have := h.rec_ t; exact ⟨this.le, this.pre, this.want, this.early⟩
    · simp only [Fd.send, up_not, Bool.not_not, up_same, if_pos hE]
      have := h.rec_ (!t); rw [Bool.not_not] at this
      exact this.mono hgr (by simp)
    · simp only [Fd.send, up_same, hsent]; exact h.nm t
    · simp only [Fd.send, up_not]; exact h.nm _
    · simp only [Fd.send, up_same, if_pos hE, List.length_append, List.length_singleton]; omega
    · simp only [Fd.send, up_not]; have := h.SL (!t); omega
    · simp only [Fd.send, up_same, hsent]; exact h.EL t
    · simp only [Fd.send, up_not]; exact h.EL _
    · simp only [Fd.send, up_same, hsent]
      intro s hs
      rcases List.mem_append.1 hs with hs | hs
      · exact h.told t s hs
      · simp only [List.mem_singleton] at hs; subst hs; exact ⟨Int.le_refl _, h.now0⟩
    · simp only [Fd.send, up_not]; exact h.told _
  · have e : f.send t nb body = f := by
      have h1 : (f.x t).sent nb = f.x t := by rw [Lk.sent, if_neg hE]
      have h2 : up t (f.x t) f.x = f.x := by funext u; unfold up; split <;> simp_all
      have h3 : up t (f.S t) f.S = f.S := by funext u; unfold up; split <;> simp_all
      rw [Fd.send, if_neg hE, h1, h2, h3]
    rw [e]
    exact ⟨h.dir, h.rec_, h.kC, h.nm, fun u => Nat.le_succ_of_le (h.SL u), h.EL, h.told, h.now0, h.now1⟩
theorem FI.fly {first ag : Int} {ns ne nn : Nat} {f : Fd} {k : Bool → Nat} (h : FI first ag ns ne nn f k) (l : List Pk) : FI first ag ns ne nn { f with fly := l } k := ⟨h.dir, h.rec_, h.kC, h.nm, h.SL, h.EL, h.told, h.now0, h.now1⟩
theorem FI.more {first ag : Int} {ns ne nn ns' ne' nn' : Nat} {f : Fd} {k : Bool → Nat} (h : FI first ag ns ne nn f k) (h1 : ns ≤ ns') (h2 : ne ≤ ne') (h3 : nn ≤ nn') : FI first ag ns' ne' nn' f k :=
  ⟨h.dir, h.rec_, h.kC, h.nm, fun t => Nat.le_trans (h.SL t) h1, fun t => Nat.le_trans (h.EL t) h2, h.told, h.now0, by have := h.now1; omega⟩
/-- what a step leaves -/
def StepOK (first ag : Int) (n : Nat) (f g : Fd) : Prop := (∃ k', FI first ag (n + 1) (n + 1) (n + 1) g k') ∧ FlyOK first g ∧ g.b = f.b
theorem mod2 {X : Int} (h : -9223372036854775808 ≤ X ∧ X < 9223372036854775808) : ∃ t : Bool, (IntKind.i64.wrap (X.tmod 2 + 2)).tmod 2 = if t then 1 else 0 := by
  have h1 := Int.tmod_lt_of_pos X (show (0 : Int) < 2 by omega)
  have h2 := Int.lt_tmod_of_pos X (show (0 : Int) < 2 by omega)
  rw [w_i64 (by omega) (by omega)]
  have h3 := Int.tmod_lt_of_pos (X.tmod 2 + 2) (show (0 : Int) < 2 by omega)
  have h4 := Int.tmod_nonneg (a := X.tmod 2 + 2) 2 (by omega)
  by_cases h5 : (X.tmod 2 + 2).tmod 2 = 0
  · exact ⟨false, by simpa using h5⟩
  · exact ⟨true, by simp; omega⟩
theorem modn {X : Int} {n : Nat} (h : -9223372036854775808 ≤ X ∧ X < 9223372036854775808) (hn : 0 < n) (hn2 : n ≤ 1000000) : ∃ i : Nat, (IntKind.i64.wrap (X.tmod (n : Int) + (n : Int))).tmod (n : Int) = (i : Int) ∧ i < n := by
  have h1 := Int.tmod_lt_of_pos X (show (0 : Int) < (n : Int) by omega)
  have h2 := Int.lt_tmod_of_pos X (show (0 : Int) < (n : Int) by omega)
  rw [w_i64 (by omega) (by omega)]
  have h3 := Int.tmod_lt_of_pos (X.tmod n + n) (show (0 : Int) < (n : Int) by omega)
  have h4 := Int.tmod_nonneg (a := X.tmod n + n) n (by omega)
  exact ⟨((X.tmod n + n).tmod n).toNat, by omega, by omega⟩
theorem u8_of (n : Int) : ∃ u : UInt8, IntKind.wrap .u8 n = (u.toNat : Int) := by
  have h : 0 ≤ IntKind.wrap .u8 n ∧ IntKind.wrap .u8 n < 256 := by simp [IntKind.wrap, IntKind.bits, IntKind.signed]; omega
  refine ⟨UInt8.ofNat (IntKind.wrap .u8 n).toNat, ?_⟩
  have : (UInt8.ofNat (IntKind.wrap .u8 n).toNat).toNat = (IntKind.wrap .u8 n).toNat % 256 := rfl
  rw [this, Nat.mod_eq_of_lt (by omega)]; omega
theorem up_id {α : Type} (t : Bool) (f : Bool → α) : up t (f t) f = f := by funext u; unfold up; split <;> simp_all
theorem c_step (fb : Nat) (f : Fd) (k : Bool → Nat) (n : Nat) (hn : n < 1000) (first ag : Int) (h0 : 0 ≤ first) (hF : first < 9223372036854775808) (I : FI first ag n n n f k) (hFl : FlyOK first f) (kd X Ix : Int)
    (hX : -9223372036854775808 ≤ X ∧ X < 9223372036854775808) (hI : -9223372036854775808 ≤ Ix ∧ Ix < 9223372036854775808) :
    Ctr Try.prog 26 #[.pointer (some ⟨fb, 0, none⟩), .agg #[.int .i64 kd, .int .i64 X, .int .i64 Ix]] (fun m => FdM m f) [fdA fb f] (fun _ : {g : Fd // StepOK first ag n f g} => .tuple #[]) (fun g m => FdM m g.1) (fun g => [fdA fb g.1]) := by
  refine Ctr.mk fun w F m C hM => x_gemotlaw10_field_step _ _ _ _ w _ ?_
  obtain ⟨fp, C⟩ := fdO C
  refine ⟨f.now, by rw [Addr.add_mid]; exact C.blkCell (j := 7) rfl, fun w2 L3 h2 g2 => ?_⟩
  replace C := C.hidL h2 g2
  refine ⟨rfl, C.there 7 1 (by simp), C.blkAt.2, ?_⟩
  have hn0 := I.now0
  have hn1 := I.now1
  have enow : IntKind.wrap .i64 (f.now + 1) = f.now + 1 := w_i64 (by omega) (by omega)
  rw [enow]
  have C2 : Ctx F m w (w2.setCells fb 7 [.int .i64 (f.now + 1)]) L3 m (fdAs fb { f with now := f.now + 1 } fp ++ []) := by
    have := C.store 7 [.int .i64 (f.now + 1)] (by simp)
    simpa [splice, fdAs] using this
  have I2 : FI first ag n n (n + 1) { f with now := f.now + 1 } k := I.tick 1
  have hFl2 : FlyOK first { f with now := f.now + 1 } := ⟨fun p hp => by obtain ⟨t, ht⟩ := hFl.1 p hp; exact ⟨t, ht.fn, ht.fl, ht.tn, ht.tl, ht.ok⟩, hFl.2⟩
  have hM2 : FdM m { f with now := f.now + 1 } := hM
  have hb2 : ({ f with now := f.now + 1 } : Fd).b = f.b := rfl
  clear C hM I hFl enow
  change ∃ q4 : Option Addr, ∃ k5 : Nat, ∃ k6 : Nat, _
  generalize w2.setCells (Addr.block ⟨fb, 0, none⟩) (Addr.off ⟨fb, 0, none⟩ + 7) [.int .i64 (f.now + 1)] = u at C2 ⊢
  have hC2 : Ctx F m w u L3 m (fdAs fb { f with now := f.now + 1 } fp ++ []) := C2
  clear C2
  generalize hg : ({ f with now := f.now + 1 } : Fd) = g at hC2 I2 hFl2 hM2 hb2
  clear hg
  have C := hC2
  clear hC2 h2 g2
  have hfin : ∀ {w' L' m'} (g' : Fd) (fp' : Fp), StepOK first ag n f g' → FdM m' g' → Ctx F m w w' L' m' (fdAs fb g' fp' ++ []) →
      ∃ (i : {g : Fd // StepOK first ag n f g}) (m' : Mem) (L : List Nat), Ending.returned (.tuple #[]) = .returned (.tuple #[]) ∧ FdM m' i.1 ∧ Ctx F m w w' L m' [fdA fb i.1] := fun g' fp' h1 h2 D => ⟨⟨g', h1⟩, _, _, rfl, h2, fdI fp' D⟩
  refine ⟨fp.f.1, g.fly.length, fp.f.2, by rw [Addr.add_mid]; exact C.blkCell (j := 2) rfl, C.blkAt.2, ?_⟩
  by_cases hk1 : kd ≤ 1
  · rw [if_pos (by simpa using hk1)]
    obtain ⟨t, ht⟩ := mod2 hX
    rw [ht]
    cases t
    · obtain ⟨u0, hu0⟩ := u8_of 0
      obtain ⟨u1, hu1⟩ := u8_of ((g.S false).length : Int)
      rw [if_neg Bool.false_ne_true]
      rw [hu0]
      refine ⟨by decide, by decide, fp.s0.1, (g.S false).length, fp.s0.2, C.blkCell (j := 3) rfl, C.blkAt.2, by decide, by decide, ?_⟩
      rw [hu1]
      obtain ⟨D, hm1⟩ := C.newShare (byV [u0, u1]) 5 (0, 0)
      refine ⟨some ⟨g.b false, 0, none⟩, D.blkCell (j := 0) rfl, D.blkAt.2, ?_⟩
      have hd : BrM (m.plus u.heap.size (byV [u0, u1])) ⟨[u0, u1], some ⟨u.heap.size, 0, none⟩, 2⟩ :=
        ⟨MSrc.mk (by simp [byV]) (fun a ha => by injection ha with ha; subst ha; exact Mem.plus_cells _ _ _ _ _ fun j v h => by rw [Nat.zero_add]; exact h) (fun h => by cases h), by simp⟩
      replace D := D.pm [1, 0, 2, 3, 4, 5, 6, 7] rfl
      simp only [sel, nth, List.append_nil, List.cons_append, List.nil_append, fdAs] at D
      refine (c_Send (g.b false) (g.x false) ⟨[u0, u1], some ⟨u.heap.size, 0, none⟩, 2⟩).call D ⟨hd, (hM2.1 false).mono hm1⟩ fun nb m2 w67 hk hm2 hs D => ⟨_, rfl, hk, ?_⟩
      obtain ⟨hn1, hn2, hn3⟩ := hs
      refine D.gives (c_num _) fun w70 k70 D => ⟨_, rfl, k70, ?_⟩
      have hI3 := I2.send h0 (by omega) false (nb := nb) (body := [u0, u1]) hn1
      have hok : StepOK first ag n f (g.send false nb [u0, u1]) := ⟨⟨k, hI3.more (by omega) (by omega) (by omega)⟩, ⟨fun p hp => by
        obtain ⟨t, ht⟩ := hFl2.1 p hp
        refine ⟨t, ht.mono (all_b false ?_ ?_) (fun _ => Nat.le_refl _)⟩
        · intro j b hj
          simp only [Fd.send, up_same]
          split
          · exact app_get hj
          · exact hj
        · intro j b hj
          simp only [Fd.send, up_not]; exact hj, hFl2.2⟩, hb2⟩
      have hM3 : FdM m2 (g.send false nb [u0, u1]) := ⟨all_b false (by simp only [Fd.send, up_same]; exact hn3) (by simp only [Fd.send, up_not]; exact ((hM2.1 _).mono hm1).mono hm2), fun p hp => ((hM2.2 p hp).mono hm1).mono hm2⟩
      by_cases hE : sendE (g.x false) = 0
      rotate_left
      · rw [if_neg (by simpa using hE)]
        refine hfin (L' := L3) _ fp hok hM3 ?_
        have D := D.pm [1, 0, 2, 3, 4, 5, 6, 7] rfl
        simp only [sel, nth, List.append_nil, List.cons_append, List.nil_append] at D
        simp only [fdAs, Fd.row, Fd.send, if_neg hE, up_id]
        simpa [up] using D
      rw [if_pos (by simpa using hE)]
      replace D := D.pm [1, 4, 0, 2, 3, 5, 6, 7] rfl
      simp only [sel, nth, List.append_nil, List.cons_append, List.nil_append] at D
      have hf : ∀ {w' L' m'} {As' : List Asn}, Ctx F m w w' L' m' (blk fb (g.row fp) 69 :: As') → FactsW [(⟨fb, 3, none⟩, [slV fp.s0 (g.S false).length])] w' L' := fun D => D.blkFact1 3 _ rfl (facts_nil _ _)
      refine ⟨_, hf D, by decide, by decide, fp.s0.1, (g.S false).length, fp.s0.2, List.mem_singleton.2 rfl, fun w76 L77 h76 g76 => ?_⟩
      replace D := D.hidL h76 g76
      refine ⟨_, w76, run_body D (hd.mono hm2), kept_refl _ _, hf D, ?_⟩
      have D1 := (D.alloc [strV [u0, u1]] 9).pm [1, 2, 0, 3, 4, 5, 6, 7, 8] rfl
      simp only [sel, nth, List.append_nil, List.cons_append, List.nil_append] at D1
      have hcl : Cells (w76.alloc (.cells [strV [u0, u1]].toArray 9)) ⟨w76.heap.size, 0, none⟩ [strV [u0, u1]] := ((D.alloc [strV [u0, u1]] 9)).blkCells fun j v e => by rw [Nat.zero_add]; exact e
      refine ⟨hf D1, ?_⟩
      have D2 := D1.swap
      have hSl := I2.SL false
      obtain ⟨q2, c2, w83, hr, hkk, D3⟩ := D2.app (P := Try.prog) (bytes := 16) (t := 66) (t2 := 66) 66 (by kernel_rfl) (.some ⟨w76.heap.size, 0, none⟩ 1 1 [strV [u0, u1]] rfl hcl) (by omega) (strV_one [[u0, u1]])
      have D4 := D3.swap
      refine ⟨q2, (g.S false).length + 1, c2, w83, hr, hkk, by decide, by decide, rfl, D4.there 3 1 (by simp), D4.blkAt.2, ?_⟩
      have D5 := D4.store 3 [slV (q2, c2) ((g.S false).length + 1)] (by simp)
      have D6 := D5.pm [0, 3, 4, 5, 1, 6, 7, 8, 2] rfl
      have D7 := (D6.pm [8, 0, 1, 2, 3, 4, 5, 6, 7] rfl).drop
      simp only [sel, nth, List.append_nil, List.cons_append, List.nil_append] at D7
      refine hfin (w' := w83.setCells fb 3 [slV (q2, c2) ((g.S false).length + 1)]) (L' := L77) _ { fp with s0 := (q2, c2) } hok hM3 ?_
      simp only [fdAs, Fd.row, Fd.send, if_pos hE, strA]
      simpa [splice, up] using D7
    · obtain ⟨u0, hu0⟩ := u8_of 1
      obtain ⟨u1, hu1⟩ := u8_of ((g.S true).length : Int)
      rw [if_pos rfl]
      rw [hu0]
      refine ⟨by decide, by decide, fp.s1.1, (g.S true).length, fp.s1.2, C.blkCell (j := 4) rfl, C.blkAt.2, by decide, by decide, ?_⟩
      rw [hu1]
      obtain ⟨D, hm1⟩ := C.newShare (byV [u0, u1]) 5 (0, 0)
      refine ⟨some ⟨g.b true, 0, none⟩, D.blkCell (j := 1) rfl, D.blkAt.2, ?_⟩
      have hd : BrM (m.plus u.heap.size (byV [u0, u1])) ⟨[u0, u1], some ⟨u.heap.size, 0, none⟩, 2⟩ :=
        ⟨MSrc.mk (by simp [byV]) (fun a ha => by injection ha with ha; subst ha; exact Mem.plus_cells _ _ _ _ _ fun j v h => by rw [Nat.zero_add]; exact h) (fun h => by cases h), by simp⟩
      replace D := D.pm [2, 0, 1, 3, 4, 5, 6, 7] rfl
      simp only [sel, nth, List.append_nil, List.cons_append, List.nil_append, fdAs] at D
      refine (c_Send (g.b true) (g.x true) ⟨[u0, u1], some ⟨u.heap.size, 0, none⟩, 2⟩).call D ⟨hd, (hM2.1 true).mono hm1⟩ fun nb m2 w67 hk hm2 hs D => ⟨_, rfl, hk, ?_⟩
      obtain ⟨hn1, hn2, hn3⟩ := hs
      refine D.gives (c_num _) fun w70 k70 D => ⟨_, rfl, k70, ?_⟩
      have hI3 := I2.send h0 (by omega) true (nb := nb) (body := [u0, u1]) hn1
      have hok : StepOK first ag n f (g.send true nb [u0, u1]) := ⟨⟨k, hI3.more (by omega) (by omega) (by omega)⟩, ⟨fun p hp => by
        obtain ⟨t, ht⟩ := hFl2.1 p hp
        refine ⟨t, ht.mono (all_b true ?_ ?_) (fun _ => Nat.le_refl _)⟩
        · intro j b hj
          simp only [Fd.send, up_same]
          split
          · exact app_get hj
          · exact hj
        · intro j b hj
          simp only [Fd.send, up_not]; exact hj, hFl2.2⟩, hb2⟩
      have hM3 : FdM m2 (g.send true nb [u0, u1]) := ⟨all_b true (by simp only [Fd.send, up_same]; exact hn3) (by simp only [Fd.send, up_not]; exact ((hM2.1 _).mono hm1).mono hm2), fun p hp => ((hM2.2 p hp).mono hm1).mono hm2⟩
      by_cases hE : sendE (g.x true) = 0
      rotate_left
      · rw [if_neg (by simpa using hE)]
        refine hfin (L' := L3) _ fp hok hM3 ?_
        have D := D.pm [1, 2, 0, 3, 4, 5, 6, 7] rfl
        simp only [sel, nth, List.append_nil, List.cons_append, List.nil_append] at D
        simp only [fdAs, Fd.row, Fd.send, if_neg hE, up_id]
        simpa [up] using D
      rw [if_pos (by simpa using hE)]
      replace D := D.pm [1, 5, 2, 0, 3, 4, 6, 7] rfl
      simp only [sel, nth, List.append_nil, List.cons_append, List.nil_append] at D
      have hf : ∀ {w' L' m'} {As' : List Asn}, Ctx F m w w' L' m' (blk fb (g.row fp) 69 :: As') → FactsW [(⟨fb, 4, none⟩, [slV fp.s1 (g.S true).length])] w' L' := fun D => D.blkFact1 4 _ rfl (facts_nil _ _)
      refine ⟨_, hf D, by decide, by decide, fp.s1.1, (g.S true).length, fp.s1.2, List.mem_singleton.2 rfl, fun w76 L77 h76 g76 => ?_⟩
      replace D := D.hidL h76 g76
      refine ⟨_, w76, run_body D (hd.mono hm2), kept_refl _ _, hf D, ?_⟩
      have D1 := (D.alloc [strV [u0, u1]] 9).pm [1, 2, 0, 3, 4, 5, 6, 7, 8] rfl
      simp only [sel, nth, List.append_nil, List.cons_append, List.nil_append] at D1
      have hcl : Cells (w76.alloc (.cells [strV [u0, u1]].toArray 9)) ⟨w76.heap.size, 0, none⟩ [strV [u0, u1]] := ((D.alloc [strV [u0, u1]] 9)).blkCells fun j v e => by rw [Nat.zero_add]; exact e
      refine ⟨hf D1, ?_⟩
      have D2 := D1.swap
      have hSl := I2.SL true
      obtain ⟨q2, c2, w83, hr, hkk, D3⟩ := D2.app (P := Try.prog) (bytes := 16) (t := 66) (t2 := 66) 66 (by kernel_rfl) (.some ⟨w76.heap.size, 0, none⟩ 1 1 [strV [u0, u1]] rfl hcl) (by omega) (strV_one [[u0, u1]])
      have D4 := D3.swap
      refine ⟨q2, (g.S true).length + 1, c2, w83, hr, hkk, by decide, by decide, rfl, D4.there 4 1 (by simp), D4.blkAt.2, ?_⟩
      have D5 := D4.store 4 [slV (q2, c2) ((g.S true).length + 1)] (by simp)
      have D6 := D5.pm [0, 3, 4, 5, 6, 1, 7, 8, 2] rfl
      have D7 := (D6.pm [8, 0, 1, 2, 3, 4, 5, 6, 7] rfl).drop
      simp only [sel, nth, List.append_nil, List.cons_append, List.nil_append] at D7
      refine hfin (w' := w83.setCells fb 4 [slV (q2, c2) ((g.S true).length + 1)]) (L' := L77) _ { fp with s1 := (q2, c2) } hok hM3 ?_
      simp only [fdAs, Fd.row, Fd.send, if_pos hE, strA]
      simpa [splice, up] using D7
  rw [if_neg (by simpa using hk1)]
  by_cases hk2 : kd = 2
  · rw [if_pos (by simpa using hk2)]
    by_cases h100 : g.fly.length < 100
    rotate_left
    · rw [if_neg (by simp; omega)]
      exact hfin g fp ⟨⟨k, I2.more (by omega) (by omega) (by omega)⟩, hFl2, hb2⟩ hM2 C
    rw [if_pos (by simp; omega)]
    obtain ⟨t, ht⟩ := mod2 hX
    rw [ht]
    cases t
    · rw [if_neg Bool.false_ne_true]
      have hf : ∀ {w' L' m'} {As' : List Asn}, Ctx F m w w' L' m' (blk fb (g.row fp) 69 :: As') → FactsW [(⟨fb, 2, none⟩, [slV fp.f g.fly.length]), (⟨fb, 0, none⟩, [lpV (g.b false)]), (⟨fb, 7, none⟩, [.int .i64 g.now])] w' L' := fun D =>
        D.blkFact1 2 _ rfl (D.blkFact1 0 _ rfl (D.blkFact1 7 _ rfl (facts_nil _ _)))
      refine ⟨_, hf C, fp.f.1, g.fly.length, fp.f.2, by simp [Addr.add_mid, slV], by decide, by decide, some ⟨g.b false, 0, none⟩, by simp [Addr.add_mid], g.now, by simp [Addr.add_mid], fun w51 L52 h51 g51 => ?_⟩
      have D := (C.hidL h51 g51).pm [1, 0, 2, 3, 4, 5, 6, 7] rfl
      simp only [sel, nth, List.append_nil, List.cons_append, List.nil_append, fdAs] at D
      refine (c_Out (g.b false) (g.x false) g.now (I2.dir false).w32).call D (hM2.1 false) fun o m3 w54 hk hm3 ho D => ⟨_, _, _, rfl, hk, ?_⟩
      obtain ⟨ol, oq, oc⟩ := o
      dsimp only at ho D ⊢
      obtain ⟨ho1, ho2, ho3⟩ := ho
      have hol : ol.length ≤ 8 := by have := congrArg List.length ho1; rw [List.length_map] at this; have := outs_le (g.x false) g.now; omega
      replace D := D.pm [2, 1, 4, 0, 3, 5, 6, 7, 8] rfl
      simp only [sel, nth, List.append_nil, List.cons_append, List.nil_append] at D
      refine ⟨hf D, ?_⟩
      have D1 := D.pm [2, 0, 1, 3, 4, 5, 6, 7, 8] rfl
      simp only [sel, nth, List.append_nil, List.cons_append, List.nil_append] at D1
      obtain ⟨q58, c60, w61, hr, hkk, D2⟩ := D1.app (P := Try.prog) (bytes := 64) (t := 45) (t2 := 45) 45 (by kernel_rfl) (D.swap.slSrc) (by omega) (flat_one pk_one _)
      replace D2 := D2.swap
      refine ⟨q58, g.fly.length + ol.length, c60, w61, hr, hkk, hf D2, rfl, D2.there 2 1 (by simp), D2.blkAt.2, ?_⟩
      have D3 := D2.store 2 [slV (q58, c60) (g.fly.length + ol.length)] (by simp)
      have D4 := (D3.pm [2, 0, 1, 3, 4, 5, 6, 7, 8] rfl).drop
      simp only [sel, nth, List.append_nil, List.cons_append, List.nil_append] at D4
      -- [blk, fly, lkfalse, lko, S0, S1, C0, C1]
      have D5 := D4.pm [0, 2, 3, 1, 4, 5, 6, 7] rfl
      simp only [sel, nth, List.append_nil, List.cons_append, List.nil_append] at D5
      have hIo := I2.out false
      refine hfin (w' := w61.setCells fb 2 [slV (q58, c60) (g.fly.length + ol.length)]) (L' := L52) (m' := m3) { (g.out false) with fly := g.fly ++ ol } { fp with f := (q58, c60) } ⟨⟨k, (hIo.fly _).more (by omega) (by omega) (by omega)⟩, ⟨fun p hp => ?_, by simp; omega⟩, hb2⟩ ⟨all_b false ?_ ?_, fun p hp => ?_⟩ ?_
      · rcases List.mem_append.1 hp with hp | hp
        · obtain ⟨t, ht⟩ := hFl2.1 p hp; exact ⟨t, ht.fn, ht.fl, ht.tn, ht.tl, ht.ok⟩
        · have ht := (I2.pks false ho1 hp).1
          exact ⟨_, ht.fn, ht.fl, ht.tn, ht.tl, ht.ok⟩
      · simp only [Fd.out, up_same]; exact ho3
      · simp only [Fd.out, up_not]; exact (hM2.1 _).mono hm3
      · rcases List.mem_append.1 hp with hp | hp
        · exact (hM2.2 p hp).mono hm3
        · exact ho2 p hp
      · have e1 : (g.fly ++ ol).length = g.fly.length + ol.length := by simp
        have e2 : (g.fly ++ ol).flatMap Pk.row = g.fly.flatMap Pk.row ++ ol.flatMap Pk.row := by simp
        simp only [fdAs, Fd.row, Fd.out, pksA]
        rw [e1, e2]
        simpa [splice, up] using D5
    · rw [if_pos rfl]
      have hf : ∀ {w' L' m'} {As' : List Asn}, Ctx F m w w' L' m' (blk fb (g.row fp) 69 :: As') → FactsW [(⟨fb, 2, none⟩, [slV fp.f g.fly.length]), (⟨fb, 1, none⟩, [lpV (g.b true)]), (⟨fb, 7, none⟩, [.int .i64 g.now])] w' L' := fun D =>
        D.blkFact1 2 _ rfl (D.blkFact1 1 _ rfl (D.blkFact1 7 _ rfl (facts_nil _ _)))
      refine ⟨_, hf C, fp.f.1, g.fly.length, fp.f.2, by simp [Addr.add_mid, slV], by decide, by decide, some ⟨g.b true, 0, none⟩, by simp [Addr.add_mid], g.now, by simp [Addr.add_mid], fun w51 L52 h51 g51 => ?_⟩
      have D := (C.hidL h51 g51).pm [2, 0, 1, 3, 4, 5, 6, 7] rfl
      simp only [sel, nth, List.append_nil, List.cons_append, List.nil_append, fdAs] at D
      refine (c_Out (g.b true) (g.x true) g.now (I2.dir true).w32).call D (hM2.1 true) fun o m3 w54 hk hm3 ho D => ⟨_, _, _, rfl, hk, ?_⟩
      obtain ⟨ol, oq, oc⟩ := o
      dsimp only at ho D ⊢
      obtain ⟨ho1, ho2, ho3⟩ := ho
      have hol : ol.length ≤ 8 := by have := congrArg List.length ho1; rw [List.length_map] at this; have := outs_le (g.x true) g.now; omega
      replace D := D.pm [2, 1, 4, 0, 3, 5, 6, 7, 8] rfl
      simp only [sel, nth, List.append_nil, List.cons_append, List.nil_append] at D
      refine ⟨hf D, ?_⟩
      have D1 := D.pm [2, 0, 1, 3, 4, 5, 6, 7, 8] rfl
      simp only [sel, nth, List.append_nil, List.cons_append, List.nil_append] at D1
      obtain ⟨q58, c60, w61, hr, hkk, D2⟩ := D1.app (P := Try.prog) (bytes := 64) (t := 45) (t2 := 45) 45 (by kernel_rfl) (D.swap.slSrc) (by omega) (flat_one pk_one _)
      replace D2 := D2.swap
      refine ⟨q58, g.fly.length + ol.length, c60, w61, hr, hkk, hf D2, rfl, D2.there 2 1 (by simp), D2.blkAt.2, ?_⟩
      have D3 := D2.store 2 [slV (q58, c60) (g.fly.length + ol.length)] (by simp)
      have D4 := (D3.pm [2, 0, 1, 3, 4, 5, 6, 7, 8] rfl).drop
      simp only [sel, nth, List.append_nil, List.cons_append, List.nil_append] at D4
      -- [blk, fly, lktrue, lko, S0, S1, C0, C1]
      have D5 := D4.pm [0, 3, 2, 1, 4, 5, 6, 7] rfl
      simp only [sel, nth, List.append_nil, List.cons_append, List.nil_append] at D5
      have hIo := I2.out true
      refine hfin (w' := w61.setCells fb 2 [slV (q58, c60) (g.fly.length + ol.length)]) (L' := L52) (m' := m3) { (g.out true) with fly := g.fly ++ ol } { fp with f := (q58, c60) } ⟨⟨k, (hIo.fly _).more (by omega) (by omega) (by omega)⟩, ⟨fun p hp => ?_, by simp; omega⟩, hb2⟩ ⟨all_b true ?_ ?_, fun p hp => ?_⟩ ?_
      · rcases List.mem_append.1 hp with hp | hp
        · obtain ⟨t, ht⟩ := hFl2.1 p hp; exact ⟨t, ht.fn, ht.fl, ht.tn, ht.tl, ht.ok⟩
        · have ht := (I2.pks true ho1 hp).1
          exact ⟨_, ht.fn, ht.fl, ht.tn, ht.tl, ht.ok⟩
      · simp only [Fd.out, up_same]; exact ho3
      · simp only [Fd.out, up_not]; exact (hM2.1 _).mono hm3
      · rcases List.mem_append.1 hp with hp | hp
        · exact (hM2.2 p hp).mono hm3
        · exact ho2 p hp
      · have e1 : (g.fly ++ ol).length = g.fly.length + ol.length := by simp
        have e2 : (g.fly ++ ol).flatMap Pk.row = g.fly.flatMap Pk.row ++ ol.flatMap Pk.row := by simp
        simp only [fdAs, Fd.row, Fd.out, pksA]
        rw [e1, e2]
        simpa [splice, up] using D5
  rw [if_neg (by simpa using hk2)]
  by_cases hpos : 0 < g.fly.length
  rotate_left
  · rw [if_neg (by simp only [decide_eq_true_eq]; omega)]
    exact hfin g fp ⟨⟨k, I2.more (by omega) (by omega) (by omega)⟩, hFl2, hb2⟩ hM2 C
  rw [if_pos (by simp only [decide_eq_true_eq]; omega)]
  obtain ⟨i, hi, hlt⟩ := modn hI hpos (by have := hFl2.2; omega)
  rw [hi]
  have hi1 : IntKind.wrap .i64 ((i : Int) + 1) = ((i + 1 : Nat) : Int) := by have := hFl2.2; rw [w_i64 (by omega) (by omega)]; omega
  have CF := C.pm [3, 0, 1, 2, 4, 5, 6, 7] rfl
  simp only [sel, nth, List.append_nil, List.cons_append, List.nil_append, fdAs] at CF
  have hrl : (g.fly.flatMap Pk.row).length = g.fly.length * 8 := flat_len pk_len _
  obtain ⟨pa, hpa⟩ := slice_some CF (by intro h; rw [h] at hrl; simp at hrl; omega)
  have hcells := CF.slCells.1 pa hpa
  refine ⟨by omega, by omega, fp.f.1, g.fly.length, fp.f.2, by rw [Addr.add_mid]; exact C.blkCell (j := 2) rfl, C.blkAt.2, by omega, by omega, ?_⟩
  rw [hpa, onSome_some]
  refine ⟨_, _, _, _, _, _, _, _, _, _, cells_elem pk_len hcells.1 i hlt, by rw [addr_block]; exact hcells.2 (by intro h; rw [h] at hrl; simp at hrl; omega), ?_⟩
  obtain ⟨t, htp⟩ := hFl2.1 g.fly[i] (List.getElem_mem hlt)
  have hbr := hM2.2 g.fly[i] (List.getElem_mem hlt)
  -- it comes
  have hears : ∀ {w'} {L' : List Nat} {R : Ending → World → Prop} (l : List Pk) (fp' : Fp), (∀ p ∈ l, p ∈ g.fly) → l.length ≤ 108 → Ctx F m w w' L' m (fdAs fb { g with fly := l } fp' ++ []) →
      (∀ w'', Kept L' w' w'' → (∃ (i : {g : Fd // StepOK first ag n f g}) (m' : Mem) (L : List Nat), Ending.returned (.tuple #[]) = .returned (.tuple #[]) ∧ FdM m' i.1 ∧ Ctx F m w w'' L m' [fdA fb i.1]) → R (.returned (.tuple #[])) w'') →
      CallX Try.prog 28 #[.pointer (some ⟨fb, 0, none⟩), (g.fly[i]).V] w' R := fun l fp' hl hl2 D hR => by
    have IG : FI first ag n n (n + 1) { g with fly := l } k := I2.fly l
    have hMG : FdM m { g with fly := l } := ⟨hM2.1, fun p hp => hM2.2 p (hl p hp)⟩
    have htG : PkFor first { g with fly := l } t g.fly[i] := ⟨htp.fn, htp.fl, htp.tn, htp.tl, htp.ok⟩
    have hFG : ∀ p ∈ l, ∃ t, PkFor first { g with fly := l } t p := fun p hp => by obtain ⟨t, ht⟩ := hFl2.1 p (hl p hp); exact ⟨t, ht.fn, ht.fl, ht.tn, ht.tl, ht.ok⟩
    have hC1 := (IG.rec_ t).le
    have hC2 := IG.SL (!t)
    have key : ∀ nb : Br, nb.bs = g.fly[i].b.bs → StepOK first ag n f (({ g with fly := l } : Fd).heard t g.fly[i] nb) := fun nb hnb => by
      obtain ⟨k', hH, hFI⟩ := IG.hear h0 (by omega) t htG hnb
      refine ⟨⟨_, hFI.more (by omega) (by omega) (by omega)⟩, ⟨fun p hp => ?_, hl2⟩, hb2⟩
      obtain ⟨u, hu⟩ := hFG p hp
      refine ⟨u, hu.mono (fun _ _ _ h => h) (all_b t ?_ ?_)⟩
      · simp only [Fd.heard, up_same, List.length_append]; omega
      · simp only [Fd.heard, up_not]; omega
    have hEL := IG.EL t
    have hw := (IG.dir t).w32
    cases t
    · exact (c_hear_false fb { g with fly := l } g.fly[i] hw (by omega) (by omega) htG.tn).call (As := []) (fdI fp' D) ⟨hbr, hMG⟩ fun nb m' w'' hk hm hp D => hR w'' hk ⟨⟨_, key nb hp.1⟩, m', _, rfl, hp.2, D⟩
    · exact (c_hear_true fb { g with fly := l } g.fly[i] hw (by omega) (by omega) htG.tn).call (As := []) (fdI fp' D) ⟨hbr, hMG⟩ fun nb m' w'' hk hm hp D => hR w'' hk ⟨⟨_, key nb hp.1⟩, m', _, rfl, hp.2, D⟩
  by_cases hk5 : kd = 5
  · rw [if_neg (by simp [hk5]), if_pos (by simp [hk5])]
    intro w22 L23 h22 g22
    exact hears g.fly fp (fun p hp => hp) hFl2.2 (C.hidL h22 g22) fun w'' hk hx => ⟨rfl, hk, hx⟩
  rw [if_pos (by simpa using hk5)]
  have hf : ∀ {w' L' m'} {As' : List Asn}, Ctx F m w w' L' m' (blk fb (g.row fp) 69 :: As') → FactsW [(⟨fb, 2, none⟩, [slV fp.f g.fly.length])] w' L' := fun D => D.blkFact1 2 _ rfl (facts_nil _ _)
  have hcap := CF.slCap
  refine ⟨_, hf C, fp.f.1, g.fly.length, fp.f.2, by simp [Addr.add_mid, slV], by omega, by omega, fp.f.1, g.fly.length, fp.f.2, by simp [Addr.add_mid, slV], by rw [hi1]; omega, by rw [hi1]; omega, fun w33 L34 h33 g33 => ?_⟩
  have D := CF.hidL h33 g33
  have D1 := D.slNew (cs := []) (n := 0) (ty := 53) (sz := 8) rfl (by simp [maxLen])
  refine ⟨hf (D1.pm [2, 0, 1, 3, 4, 5, 6, 7, 8] rfl), ?_⟩
  rw [hi1]
  rw [Int.toNat_natCast, Int.toNat_natCast]
  have hsub1 := slSub D1.swap 0 i fp.f.2 (by omega)
  have e1 : ((g.fly.flatMap Pk.row).drop (0 * 8)).take (i * 8) = (g.fly.take i).flatMap Pk.row := by
    rw [Nat.zero_mul, List.drop_zero]; exact flat_take pk_len _ _
  rw [e1] at hsub1
  obtain ⟨q35, c36, w38, hr, hkk, D2⟩ := D1.app (P := Try.prog) (bytes := 64) (t := 45) (t2 := 45) 45 (by kernel_rfl) hsub1 (by have := hFl2.2; omega) (flat_one pk_one _)
  rw [Nat.zero_add] at hr D2
  refine ⟨q35, i, c36, w38, hr, hkk, hf (D2.pm [2, 0, 1, 3, 4, 5, 6, 7, 8] rfl), ?_⟩
  have hsub2 := slSub D2.swap (i + 1) (g.fly.length - (i + 1)) (fp.f.2 - (i + 1)) (by omega)
  have e2 : ((g.fly.flatMap Pk.row).drop ((i + 1) * 8)).take ((g.fly.length - (i + 1)) * 8) = (g.fly.drop (i + 1)).flatMap Pk.row := by
    rw [flat_drop pk_len, List.take_of_length_le]
    rw [flat_len pk_len, List.length_drop]
    exact Nat.le_refl _
  rw [e2] at hsub2
  obtain ⟨q39, c41, w42, hr2, hkk2, D3⟩ := D2.app (P := Try.prog) (bytes := 64) (t := 45) (t2 := 45) 45 (by kernel_rfl) hsub2 (by have := hFl2.2; omega) (flat_one pk_one _)
  refine ⟨q39, _, c41, w42, hr2, hkk2, hf (D3.pm [2, 0, 1, 3, 4, 5, 6, 7, 8] rfl), rfl, ?_⟩
  have D4 := D3.pm [2, 0, 1, 3, 4, 5, 6, 7, 8] rfl
  simp only [sel, nth, List.append_nil, List.cons_append, List.nil_append] at D4
  refine ⟨D4.there 2 1 (by simp), D4.blkAt.2, ?_⟩
  have D5 := D4.store 2 [.slice q39 (i + (g.fly.length - (i + 1))) c41] (by simp)
  have el : (g.fly.eraseIdx i).length = i + (g.fly.length - (i + 1)) := by rw [List.length_eraseIdx]; rw [if_pos hlt]; omega
  have ef : (g.fly.eraseIdx i).flatMap Pk.row = [] ++ (g.fly.take i).flatMap Pk.row ++ (g.fly.drop (i + 1)).flatMap Pk.row := by
    rw [List.eraseIdx_eq_take_drop_succ, List.flatMap_append]; rfl
  have D6 : Ctx F m w (w42.setCells fb 2 [.slice q39 (i + (g.fly.length - (i + 1))) c41]) L34 m (fdAs fb { g with fly := g.fly.eraseIdx i } { fp with f := (q39, c41) } ++ []) := by
    have D7 := D5.pm [0, 3, 4, 1, 5, 6, 7, 8, 2] rfl
    have D8 := D7.pm [8, 0, 1, 2, 3, 4, 5, 6, 7] rfl
    have D9 := D8.drop
    simp only [sel, nth, List.append_nil, List.cons_append, List.nil_append] at D9
    simp only [fdAs, Fd.row, pksA, el, ef]
    simpa [splice] using D9
  have hsubl : ∀ p ∈ g.fly.eraseIdx i, p ∈ g.fly := fun p hp => List.mem_of_mem_eraseIdx hp
  have hl108 : (g.fly.eraseIdx i).length ≤ 108 := by rw [el]; have := hFl2.2; omega
  by_cases hk6 : kd = 6
  · rw [if_neg (by simp [hk6])]
    refine hfin (L' := L34) { g with fly := g.fly.eraseIdx i } _ ⟨⟨k, (I2.fly _).more (by omega) (by omega) (by omega)⟩, ⟨fun p hp => ?_, hl108⟩, hb2⟩ ⟨hM2.1, fun p hp => hM2.2 p (hsubl p hp)⟩ D6
    obtain ⟨t, ht⟩ := hFl2.1 p (hsubl p hp)
    exact ⟨t, ht.fn, ht.fl, ht.tn, ht.tl, ht.ok⟩
  · rw [if_pos (by simpa using hk6)]
    exact hears (g.fly.eraseIdx i) _ hsubl hl108 D6 fun w'' hk hx => ⟨rfl, hk, hx⟩
end Go.Proofs
