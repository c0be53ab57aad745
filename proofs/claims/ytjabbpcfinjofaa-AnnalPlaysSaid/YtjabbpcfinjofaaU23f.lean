import Derived.Test.YtjabbpcfinjofaaU23e
set_option linter.unusedVariables false
set_option linter.unusedSimpArgs false
set_option maxRecDepth 10000
namespace Go.Proofs
open Go X RowKit
theorem c_Commit (b : Nat) (x : An) (g : Nat) (hg : g < 4) (c : Int) (hc1 : -9223372036854775808 ≤ c ∧ c < 9223372036854775808) (e : En) (hl : (x.o g).length ≤ 100000) (hs : 0 ≤ x.sp ∧ x.sp < 1000000) :
    Ctr Try.prog 22 #[.pointer (some ⟨b, 0, none⟩), .int .u8 (g : Int), .int .i64 c, .agg e.row.toArray] (fun m => AnM m x ∧ EnM m e) [anA b x] (fun f : En => .bool (commitF x g c e f).1) (fun f m => AnM m (commitF x g c e f).2 ∧ f.er = e.er) (fun f => [anA b (commitF x g c e f).2]) := by
  refine Ctr.mk fun w F m C hp => x_annal_Annal_Commit _ _ _ _ _ _ _ _ _ _ _ _ _ _ _ _ _ _ _ _ _ _ _ _ _ w _ fun w1 L2 h1 g1 => ?_
  obtain ⟨hx, he⟩ := hp
  refine (c_none b x hx.pre).call (As := []) (C.hidL h1 g1) trivial fun _ m1 w4 hk hm _ C => ⟨_, rfl, hk, ?_⟩
  replace hx := hx.mono hm
  replace he := he.mono hm
  by_cases hc0 : c < 0
  · rw [if_neg (by simp; omega)]
    have ef : commitF x g c e e = (false, x) := by rw [commitF, if_pos (.inl hc0)]
    exact Ctr.ret (m' := m1) (L := L2) e (by rw [ef]) ⟨by rw [ef]; exact hx, rfl⟩ (by rw [ef]; exact C)
  rw [if_pos (by simp; omega)]
  obtain ⟨p, C⟩ := anO C
  replace C : Ctx F m w w4 L2 m1 (anAs b x p) := C
  have hcell : ∀ {w' L' m'}, Ctx F m w w' L' m' (anAs b x p) → w'.cell? (((⟨b, 0, none⟩ : Addr).add 8).add ((g : Int).toNat * 1)) = some (slV (p g) (x.o g).length) ∧ ((((⟨b, 0, none⟩ : Addr).add 8).add ((g : Int).toNat * 1)).block) ∉ L' := fun D => by
    rw [Int.toNat_natCast, Nat.mul_one, Addr.add_mid, Addr.add_mid]
    refine ⟨D.blkCell (j := 0 + 8 + g) ?_, D.blkAt.2⟩
    rw [Nat.zero_add, an_cell hx.pre]
    match g, hg with
    | 0, _ | 1, _ | 2, _ | 3, _ => rfl
  refine ⟨by omega, by omega, _, _, _, (hcell C).1, (hcell C).2, ?_⟩
  by_cases hcl : c > (x.o g).length
  · rw [if_pos (by simpa using hcl)]
    have ef : commitF x g c e e = (false, x) := by rw [commitF, if_pos (.inr hcl)]
    exact Ctr.ret (m' := m1) (L := L2) e (by rw [ef]) ⟨by rw [ef]; exact hx, rfl⟩ (by rw [ef]; exact anI p C)
  rw [if_neg (by simpa using hcl)]
  refine ⟨by omega, by omega, _, _, _, (hcell C).1, (hcell C).2, ?_⟩
  have hfw : ∀ {w' L' m'} {As}, Ctx F m w w' L' m' (blk b (x.cells p) 92 :: As) → FactsW [((((⟨b, 0, none⟩ : Addr).add 8).add ((g : Int).toNat * 1)), [slV (p g) (x.o g).length])] w' L' := fun D => by
    rw [Int.toNat_natCast, Nat.mul_one, Addr.add_mid, Addr.add_mid]
    refine D.blkFact1 (0 + 8 + g) _ ?_ (facts_nil _ _)
    rw [Nat.zero_add, an_cell hx.pre]
    match g, hg with
    | 0, _ | 1, _ | 2, _ | 3, _ => rfl
  obtain ⟨Bs, op, bk, cl⟩ := anS (F0 := F) (m0 := m) (w0 := w) (b := b) (x := x) (p := p) hx.pre g hg
  by_cases hce : c = (x.o g).length
  · rw [if_pos (by simpa using hce)]
    refine ⟨_, hfw C, _, _, _, List.mem_cons_self, fun w49 L50 h49 g49 => ?_⟩
    refine (c_eClone e).call (As := anAs b x p) (C.hidL h49 g49) he fun f m2 w52 hk hm2 hf C => ⟨_, _, _, _, _, _, _, _, _, _, _, _, _, _, _, _, _, _, _, _, _, _, rfl, hk, hfw C, ?_⟩
    obtain ⟨hfm, hfe⟩ := hf
    have D0 := C.alloc f.row 107
    have hcl : Cells _ ⟨w52.heap.size, 0, none⟩ f.row := D0.blkCells (o := 0) fun k v e => by simpa using e
    have D1 : Ctx F m w _ L50 m2 (anAs b x p ++ [blk w52.heap.size f.row 107]) := D0.rot
    refine ⟨hfw D1, ?_⟩
    obtain ⟨q2, c2, w78, hr, hkk, D2⟩ := (op D1).app (P := Try.prog) (bytes := 400) (t := 55) (t2 := 55) 55 (by kernel_rfl) (.some ⟨w52.heap.size, 0, none⟩ 1 1 f.row rfl hcl) (by omega) (en_one _)
    refine ⟨q2, _, c2, w78, hr, hkk, hfw D2.swap, ?_⟩
    rw [Int.toNat_natCast, Nat.mul_one, Addr.add_mid, Addr.add_mid]
    have hlen : 8 + g + 1 ≤ (x.cells p).length := by rw [An.cells, List.length_append, hx.pre]; simp; omega
    refine ⟨rfl, D2.swap.there _ _ (by simp only [Nat.zero_add]; exact hlen), D2.swap.blkAt.2, ?_⟩
    have D3 := D2.swap.store (8 + g) [slV (q2, c2) ((x.o g).length + 1)] hlen
    have e1 : ((x.o g) ++ [f]).length = (x.o g).length + 1 := by simp
    have e2 : ((x.o g) ++ [f]).flatMap En.row = (x.o g).flatMap En.row ++ f.row := by simp
    have ef : commitF x g c e f = (true, { x with o := updO x.o g (x.o g ++ [f]) }) := by rw [commitF, if_neg (by omega), if_pos hce]
    refine Ctr.ret (m' := m2) (L := L50) f (by rw [ef]) ⟨?_, hfe⟩ ?_
    · rw [ef]
      refine ⟨hx.pre, fun k y hy => ?_⟩
      simp only [updO] at hy
      split at hy
      · rcases List.mem_append.1 hy with hy | hy
        · exact (hx.e g y hy).mono hm2
        · simp only [List.mem_singleton] at hy; subst hy; exact hfm
      · exact (hx.e k y hy).mono hm2
    · rw [ef]
      rw [← e1] at D3
      have D5 := D3.swap
      rw [← e2] at D5
      rw [Nat.zero_add, ← e1]
      exact anI _ (cl (q := (q2, c2)) (l := x.o g ++ [f]) (As := [blk w52.heap.size f.row 107]) D5).left
  · rw [if_neg (by simpa using hce)]
    obtain ⟨j, rfl⟩ : ∃ j : Nat, c = j := ⟨c.toNat, by omega⟩
    have hj : j < (x.o g).length := by omega
    have hef : ∀ f, commitF x g j e f = if (x.o g)[j].er = e.er then (true, x) else (false, { x with sp := x.sp + 1 }) := fun f => by
      rw [commitF, if_neg (by omega), if_neg hce, Int.toNat_natCast, List.getElem?_eq_getElem hj]
    have hym := hx.e g _ (List.getElem_mem hj)
    have C1 : Ctx F m w w4 L2 m1 (ensA (p g) (x.o g) :: blk b (x.cells p) 92 :: (Bs ++ [])) := op (by rw [List.append_nil]; exact C)
    have hq : ∃ a, (p g).1 = some a := by
      have hc := C1.slCells
      cases hp : (p g).1 with
      | some a => exact ⟨a, rfl⟩
      | none =>
        have h0 := hc.2 hp
        have := flat_len en_len (x.o g)
        rw [h0] at this; simp at this; omega
    obtain ⟨a, ha⟩ := hq
    have hrow : ∀ k v, (x.o g)[j].row[k]? = some v → ((x.o g).flatMap En.row)[j * 18 + k]? = some v := fun k v h => flat_at en_len _ _ hj _ _ h
    have hfw2 : ∀ {w' L' m'} {As}, Ctx F m w w' L' m' (ensA (p g) (x.o g) :: blk b (x.cells p) 92 :: As) → FactsW [(a.add (j * 18), (x.o g)[j].row), ((((⟨b, 0, none⟩ : Addr).add 8).add ((g : Int).toNat * 1)), [slV (p g) (x.o g).length])] w' L' := fun D => by
      have hh := hfw D.swap
      have e : slV (p g) (x.o g).length = .slice (some a) (x.o g).length (p g).2 := by rw [slV, ha]
      unfold ensA at D
      rw [e] at D
      exact D.slFact (j * 18) _ _ hrow hh
    refine ⟨_, hfw2 C1, (p g).1, (x.o g).length, (p g).2, by simp, by omega, by omega, ?_⟩
    rw [ha, onSome_some]
    refine ⟨_, _, _, _, _, _, _, _, _, _, _, _, _, _, _, _, _, _, _, _, _, _, by rw [Int.toNat_natCast]; exact List.mem_cons_self, fun w39 L40 h39 g39 => ?_⟩
    refine (c_eSame (x.o g)[j] e).call (As := _) (C1.hidL h39 g39) ⟨hym, he⟩ fun _ m2 w42 hk hm2 _ D => ⟨_, rfl, hk, hfw2 D, ?_⟩
    by_cases hsame : (x.o g)[j].er = e.er
    · rw [if_neg (by simp [hsame])]
      have ef := hef e
      rw [if_pos hsame] at ef
      refine Ctr.ret (m' := m2) (L := L40) e (by rw [ef]) ⟨by rw [ef]; exact hx.mono hm2, rfl⟩ ?_
      rw [ef]
      exact anI p (bk D)
    · rw [if_pos (by simp [hsame])]
      have ef := hef e
      rw [if_neg hsame] at ef
      have D1 := bk D
      have hlen : 12 + 1 ≤ (x.cells p).length := by rw [An.cells, List.length_append, hx.pre]; simp
      refine ⟨x.sp, by rw [Addr.add_mid]; exact D1.blkCell (j := 12) (an_cell hx.pre p 4), D1.blkAt.2, rfl, D1.there _ _ hlen, D1.blkAt.2, ?_⟩
      have D2 := D1.store 12 [.int .i64 (IntKind.wrap .i64 (x.sp + 1))] hlen
      have ew : IntKind.wrap .i64 (x.sp + 1) = x.sp + 1 := w_i64 (by omega) (by omega)
      rw [ew] at D2 ⊢
      have ec : splice (x.cells p) 12 [.int .i64 (x.sp + 1)] = ({ x with sp := x.sp + 1 } : An).cells p := by
        simp only [An.cells, splice, show 12 = 8 + 4 from rfl]
        rw [← hx.pre, List.take_length_add_append, Nat.add_assoc, List.drop_length_add_append]
        simp
      rw [ec] at D2
      refine Ctr.ret (m' := m2) (L := L40) e (by rw [ef]) ⟨by rw [ef]; exact ⟨hx.pre, fun k y hy => (hx.e k y hy).mono hm2⟩, rfl⟩ ?_
      rw [ef]
      exact anI p D2
end Go.Proofs
