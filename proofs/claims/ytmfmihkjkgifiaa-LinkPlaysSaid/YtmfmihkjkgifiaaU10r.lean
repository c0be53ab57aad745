import Derived.Test.YtmfmihkjkgifiaaU10q
set_option linter.unusedVariables false
set_option linter.unusedSimpArgs false
set_option maxRecDepth 10000
namespace Go.Proofs
open Go X RowKit
theorem comeF_succ {k : Nat} {want : Int} {E : List (Int × Br)} {v : Br} (h : fnd want E = some v) : comeF (k + 1) want E = (v :: (comeF k (IntKind.wrap .u64 (want + 1)) (X.mdel want E)).1, (comeF k (IntKind.wrap .u64 (want + 1)) (X.mdel want E)).2) := by simp [comeF, h]
def lenAt7 (w : World) (b : Nat) : Nat := match w.heap[b]? with
  | some (Obj.cells cs _ _) => (match cs.toList[7]? with | some (Value.slice _ n _) => n | _ => 0)
  | _ => 0
theorem lenAt7_blk {w : World} {b : Nat} {cs : List Value} {ty : TypeId} {fr : Nat × Nat} {q : Option Addr} {n c : Nat} (h : w.heap[b]? = some (.cells cs.toArray ty fr)) (h7 : cs[7]? = some (.slice q n c)) : lenAt7 w b = n := by
  simp [lenAt7, h, h7]
theorem c_rHear (b : Nat) (x : Lk) (p : Pk) (hW : x.W.length ≤ 1000000) (hI : InvE x) (hs0 : 0 ≤ p.seq) (hs1 : p.seq < 18446744073709551616) :
    Ctr Try.prog 21 #[.pointer (some ⟨b, 0, none⟩), p.V] (fun m => BrM m p.b ∧ LkM m x) [rlA b x] (fun i : Br × Option Addr × Nat => .slice i.2.1 (x.heard p i.1).1.length i.2.2)
      (fun i m => i.1.bs = p.b.bs ∧ (∀ d ∈ (x.heard p i.1).1, BrM m d) ∧ LkM m (x.heard p i.1).2) (fun i => [rlA b (x.heard p i.1).2, bodsA i.2.1 i.2.2 (x.heard p i.1).1]) := by
  refine Ctr.mk fun w F m C hp => x_gemotref10_Link_Hear _ _ _ _ _ _ _ _ _ _ _ w _ ?_
  obtain ⟨hd, hx⟩ := hp
  obtain ⟨pp, q, C⟩ := rlO C
  -- nothing comes
  have fin : ∀ {w' L' m'} (y : Lk), m.le m' → x.heard p p.b = ([], y) → LkM m' y → Ctx F m w w' L' m' [rlA b y] → ∃ (i : Br × Option Addr × Nat) (m' : Mem) (L : List Nat), Ending.returned (.slice none 0 0) = .returned (.slice i.2.1 (x.heard p i.1).1.length i.2.2) ∧ (i.1.bs = p.b.bs ∧ (∀ d ∈ (x.heard p i.1).1, BrM m' d) ∧ LkM m' (x.heard p i.1).2) ∧ Ctx F m w w' L m' [rlA b (x.heard p i.1).2, bodsA i.2.1 i.2.2 (x.heard p i.1).1] := by
    intro w' L' m' y hm he hy C
    refine ⟨(p.b, none, 0), m', L', by rw [he]; rfl, ⟨rfl, by rw [he]; simp, by rw [he]; exact hy⟩, ?_⟩
    rw [he]
    exact (C.slNil (q := none) (ty := 35) (sz := 1)).swap
  refine ⟨x.pn, x.pl, C.blkCells (o := 2) fun j v e => by match j, e with | 0, e => exact e | 1, e => exact e, ?_⟩
  by_cases h1 : (p.fn == x.pn && p.fl == x.pl) = true
  rotate_left
  · rw [if_neg (by simpa using h1)]
    intro w3 h3
    exact fin x (Mem.le_refl _) (by rw [Lk.heard, if_pos (by simp only [Lk.mine, Bool.not_eq_true] at h1 ⊢; rw [h1]; rfl)]) hx (rlI pp q (C.hid0 h3))
  rw [if_pos (by rw [h1]; rfl)]
  refine ⟨x.mn, x.ml, C.blkCells (o := 0) fun j v e => by match j, e with | 0, e => exact e | 1, e => exact e, ?_⟩
  by_cases h3 : (p.tn == x.mn && p.tl == x.ml) = true
  rotate_left
  · rw [if_pos (by simp only [Bool.not_eq_true] at h3; rw [h3]; rfl)]
    intro w3 h3'
    exact fin x (Mem.le_refl _) (by rw [Lk.heard, if_pos (by simp only [Lk.mine, Bool.not_eq_true] at h3 ⊢; rw [h3, Bool.and_false])]) hx (rlI pp q (C.hid0 h3'))
  rw [if_neg (by rw [h3]; decide)]
  have hmine : x.mine p = true := by rw [Lk.mine, h1, h3]; rfl
  -- what came is let go
  have hle := ackN_le p.ack x.W
  refine ⟨fun w' L' => Ctx F m w w' L' m [rlA b (x.acked p.ack)], fun w7 L8 h7 g7 => ?_, ?_⟩
  · replace C := C.hidL h7 g7
    let St : Nat → Lk := fun j => { x with W := x.W.drop j }
    have hgt : ∀ {w' L'}, (∃ (j : Nat), j ≤ ackN p.ack x.W ∧ (p.ack ≤ x.next ∨ j = 0) ∧ Ctx F m w w' L' m [rlA b (St j)]) → ∃ (j : Nat), j ≤ ackN p.ack x.W ∧ (p.ack ≤ x.next ∨ j = 0) ∧ ∃ pp q, Ctx F m w w' L' m (rlAs b (St j) pp q ++ []) := fun ⟨j, h1, h2, D⟩ => by
      obtain ⟨pp, q, D⟩ := rlO D; exact ⟨j, h1, h2, pp, q, D⟩
    refine ⟨fun w' L' => ∃ (j : Nat), j ≤ ackN p.ack x.W ∧ (p.ack ≤ x.next ∨ j = 0) ∧ Ctx F m w w' L' m [rlA b (St j)], fun w' => lenAt7 w' b,
      ⟨0, by omega, .inr rfl, rlI pp q (by simpa [St] using C)⟩, ?_⟩
    rintro w11 L12 _ hinv
    obtain ⟨j, hj, hjn, pp, q, D⟩ := hgt hinv
    have hcell : ∀ {w' L'} {As' : List Asn} , Ctx F m w w' L' m (blk b ((St j).row (slV pp (St j).W.length) (slV q (St j).E.length)) 60 :: As') → w'.cell? ((⟨b, 0, none⟩ : Addr).add 7) = some (slV pp (St j).W.length) := fun D => by rw [Addr.add_mid]; exact D.blkCell (j := 7) rfl
    have hbL := D.blkAt.2
    refine ⟨pp.1, (St j).W.length, pp.2, hcell D, hbL, ?_⟩
    have hsl : (St j).W.length = x.W.length - j := by simp [St]
    by_cases c1 : 0 < (St j).W.length
    rotate_left
    · rw [if_neg (by have : ¬ ((((St j).W.length : Nat) : Int) > 0) := by omega
                     simp only [this, decide_false]; decide)]
      intro w16 L17 h16 g16
      have e : x.acked p.ack = St j := by
        by_cases hn : p.ack > x.next
        · have : j = 0 := by rcases hjn with h | h; omega; exact h
          subst this; rw [Lk.acked, if_pos hn]; simp [St]
        · rw [Lk.acked, if_neg hn]
          have : ackN p.ack x.W = j := by omega
          rw [this]
      refine ⟨rfl, ?_⟩
      rw [e]; exact rlI pp q (D.hidL h16 g16)
    rw [if_pos (by simp; omega)]
    refine ⟨x.next, by rw [Addr.add_mid]; exact D.blkCell (j := 5) rfl, hbL, ?_⟩
    by_cases c2 : p.ack ≤ x.next
    rotate_left
    · rw [if_neg (by simp; omega)]
      intro w16 L17 h16 g16
      have : j = 0 := by rcases hjn with h | h; omega; exact h
      subst this
      have e : x.acked p.ack = St 0 := by rw [Lk.acked, if_pos (by omega)]; simp [St]
      refine ⟨rfl, ?_⟩
      rw [e]; exact rlI pp q (D.hidL h16 g16)
    rw [if_pos (by simp; omega)]
    have DW := D.swap
    obtain ⟨pa, hpa⟩ := slice_some DW (rows_ne c1)
    have hsc := DW.slCells.1 pa hpa
    have hc0 := seq_cell hsc.1 0 c1
    refine ⟨pp.1, (St j).W.length, pp.2, hcell D, hbL, by decide, by omega, ?_⟩
    rw [hpa, onSome_some]
    refine ⟨_, by simpa using hc0, by simp only [addr_block]; exact hsc.2 (rows_ne c1), ?_⟩
    have hjl : j < x.W.length := by omega
    have hg : (St j).W[0] = x.W[j] := by simp [St]
    rw [hg]
    by_cases c3 : x.W[j].seq < p.ack
    rotate_left
    · rw [if_neg (by simpa using c3)]
      intro w26 L27 h26 g26
      have hjj := (ackN_ge p.ack x.W j hjl hj).2 c3
      have e : x.acked p.ack = St j := by rw [Lk.acked, if_neg (by omega), ← hjj]
      refine ⟨rfl, ?_⟩
      rw [e]; exact rlI pp q (D.hidL h26 g26)
    rw [if_pos (by simpa using c3)]
    have hlt : j < ackN p.ack x.W := by
      rcases Nat.lt_or_ge j (ackN p.ack x.W) with h | h
      · exact h
      · exact absurd c3 ((ackN_ge p.ack x.W j hjl hj).1 (by omega))
    refine ⟨pp.1, (St j).W.length, pp.2, hcell D, hbL, by decide, by omega, fun w31 L32 h31 g31 => ?_⟩
    have D1 := D.hidL h31 g31
    refine ⟨rfl, D1.there 7 1 (by simp), D1.blkAt.2, rfl, ?_, ?_⟩
    · refine ⟨j + 1, hlt, .inl c2, ?_⟩
      have D2 := (D1.store 7 [slV (X.cutA pp.1 pp.2 1 4, pp.2 - 1) ((St j).W.length - 1)] (by simp)).swap
      have D3 := (slCut D2 1 (by omega)).swap
      refine rlI (X.cutA pp.1 pp.2 1 4, pp.2 - 1) q ?_
      have e1 : (St (j + 1)).W = (St j).W.drop 1 := by simp [St]
      have e2 : rows ((St j).W.drop 1) = (rows (St j).W).drop (1 * 4) := (rows_drop _ _).symm
      have e3 : (St (j + 1)).W.length = (St j).W.length - 1 := by rw [e1, List.length_drop]
      simp only [rlAs, rrowsA, e3]
      rw [e1, e2]
      exact D3
    · have m1 : lenAt7 (w31.setCells b 7 [slV (X.cutA pp.1 pp.2 1 4, pp.2 - 1) ((St j).W.length - 1)]) b = (St j).W.length - 1 := lenAt7_blk (D1.store 7 [slV (X.cutA pp.1 pp.2 1 4, pp.2 - 1) ((St j).W.length - 1)] (by simp)).blkAt.1 rfl
      have m2 : lenAt7 w11 b = (St j).W.length := lenAt7_blk D.blkAt.1 rfl
      show Nat.le (lenAt7 (w31.setCells b 7 [slV (X.cutA pp.1 pp.2 1 4, pp.2 - 1) ((St j).W.length - 1)]) b + 1) (lenAt7 w11 b)
      rw [m1, m2]
      exact Nat.le_of_eq (by omega)
  -- behind it
  clear C
  intro w33 L34 _ C
  have hx2 := owes_M hx p.ack
  by_cases h4 : p.has = false
  · rw [if_pos (by rw [h4]; rfl)]
    exact fin _ (Mem.le_refl _) (by rw [Lk.heard, if_neg (by rw [hmine]; decide), if_pos h4]) hx2.1 C
  rw [if_neg (by simpa using h4)]
  obtain ⟨pp, q, C⟩ := rlO C
  refine ⟨rfl, C.there 9 1 (by simp), C.blkAt.2, ?_⟩
  have C2 : Ctx F m w (w33.setCells b 9 [.bool true]) L34 m (rlAs b (x.owes p.ack) pp q ++ []) := C.store 9 [.bool true] (by simp)
  have hwant : (x.owes p.ack).want = x.want := acked_want x p.ack
  have hIz := hI.owes p.ack
  have hh : ∀ nb, x.heard p nb = if p.seq = x.want then (nb :: (x.owes p.ack).comes, (x.owes p.ack).came) else if (x.owes p.ack).keeps p = true then ([], { x.owes p.ack with E := X.mput p.seq nb (x.owes p.ack).E }) else ([], x.owes p.ack) := fun nb => by
    rw [Lk.heard, if_neg (by rw [hmine]; decide), if_neg h4]
  replace hx2 := hx2.2
  rw [← hwant] at hh
  change ∃ n35 : Int, _
  generalize w33.setCells (Addr.block ⟨b, 0, none⟩) (Addr.off ⟨b, 0, none⟩ + 9) [.bool true] = u at C2 ⊢
  have hu : Ctx F m w u L34 m (rlAs b (x.owes p.ack) pp q ++ []) := C2
  clear C2 C
  generalize x.owes p.ack = z at hu hx2 hh hIz
  have C := hu
  have hz8 := hIz.len
  have hcw : ∀ {w' L' m'} {As' : List Asn}, Ctx F m w w' L' m' (blk b (z.row (slV pp z.W.length) (slV q z.E.length)) 60 :: As') → w'.cell? ((⟨b, 0, none⟩ : Addr).add 6) = some (.int .u64 z.want) := fun D => by rw [Addr.add_mid]; exact D.blkCell (j := 6) rfl
  have hw0 := hIz.w0
  have hw1 := hIz.w1
  refine ⟨z.want, hcw C, C.blkAt.2, ?_⟩
  by_cases c1 : p.seq < z.want
  · rw [if_neg (by simp [c1])]
    intro w36 h36
    have hk : z.keeps p = false := by
      cases hk : z.keeps p with
      | false => rfl
      | true => have := (keeps_win hIz hs0 hs1).1 hk; omega
    exact fin z (Mem.le_refl _) (by rw [hh, if_neg (by omega), if_neg (by rw [hk]; decide)]) hx2 (rlI pp q (C.hid0 h36))
  rw [if_pos (by simp [c1])]
  refine ⟨z.want, hcw C, C.blkAt.2, ?_⟩
  rw [w_u64 (n := p.seq - z.want) (by omega) (by omega)]
  by_cases c2 : p.seq - z.want ≥ 8
  · rw [if_pos (by simpa using c2)]
    intro w98 h98
    have hk : z.keeps p = false := by
      cases hk : z.keeps p with
      | false => rfl
      | true => have := (keeps_win hIz hs0 hs1).1 hk; omega
    exact fin z (Mem.le_refl _) (by rw [hh, if_neg (by omega), if_neg (by rw [hk]; decide)]) hx2 (rlI pp q (C.hid0 h98))
  rw [if_neg (by simpa using c2)]
  refine ⟨z.want, hcw C, C.blkAt.2, ?_⟩
  by_cases c3 : p.seq = z.want
  rotate_left
  · -- early
    rw [if_pos (by simpa using c3)]
    intro w66 L67 h66 g66
    have D0 := C.hidL h66 g66
    refine ⟨fun n w' L' => ∃ j : Nat, n = j ∧ j ≤ z.E.length ∧ (∀ (k : Nat) (hk : k < z.E.length), k < j → z.E[k].1 ≠ p.seq) ∧ Ctx F m w w' L' m (rlAs b z pp q ++ []), fun n _ => (z.E.length - n).toNat, ⟨0, rfl, by omega, fun k _ h => by omega, D0⟩, ?_⟩
    rintro n w71 L72 _ ⟨j, rfl, hj, hno, D⟩
    have hcell : w71.cell? ((⟨b, 0, none⟩ : Addr).add 8) = some (slV q z.E.length) := by rw [Addr.add_mid]; exact D.blkCell (j := 8) rfl
    refine ⟨q.1, z.E.length, q.2, hcell, D.blkAt.2, ?_⟩
    by_cases g1 : j < z.E.length
    · rw [if_pos (by simpa using g1)]
      have DK := D.pm [2, 0, 1] rfl
      simp only [sel, nth, List.append_nil, List.cons_append, List.nil_append] at DK
      have hrl : (z.E.flatMap krow).length = z.E.length * 2 := flat_len krow_len _
      have hne : z.E.flatMap krow ≠ [] := by intro h; rw [h] at hrl; simp at hrl; omega
      obtain ⟨pa, hpa⟩ := slice_some DK hne
      have hce := cells_elem krow_len (DK.slCells.1 pa hpa).1 j g1
      refine ⟨q.1, z.E.length, q.2, hcell, D.blkAt.2, by omega, by omega, ?_⟩
      rw [hpa, onSome_some]
      refine ⟨z.E[j].1, hce 0 _ rfl, by simp only [addr_block]; exact (DK.slCells.1 pa hpa).2 hne, ?_⟩
      by_cases g2 : z.E[j].1 = p.seq
      · rw [if_pos (by simpa using g2)]
        intro w97 h97
        have hk : z.keeps p = false := by
          cases hk : z.keeps p with
          | false => rfl
          | true =>
            have h5 := ((keeps_win hIz hs0 hs1).1 hk).2
            exact absurd (List.mem_map.2 ⟨z.E[j], List.getElem_mem g1, g2⟩) (fnd_none.1 h5)
        exact fin z (Mem.le_refl _) (by rw [hh, if_neg c3, if_neg (by rw [hk]; decide)]) hx2 (rlI pp q (D.hid0 h97))
      · rw [if_neg (by simpa using g2)]
        intro w95 L96 h95 g95
        have e : IntKind.wrap .i64 ((j : Int) + 1) = ((j + 1 : Nat) : Int) := by rw [w_i64 (by omega) (by omega)]; omega
        rw [e]
        refine ⟨rfl, ⟨j + 1, rfl, g1, fun k hk hlt => ?_, D.hidL h95 g95⟩, Nat.le_of_eq (by show ((z.E.length : Int) - ((j + 1 : Nat) : Int)).toNat + 1 = ((z.E.length : Int) - (j : Int)).toNat; omega)⟩
        by_cases hkj : k = j
        · subst hkj; exact g2
        · exact hno k hk (by omega)
    · rw [if_neg (by simpa using g1)]
      obtain ⟨f1, _⟩ := fnd_no (x := p.seq) (E := z.E) (fun k hk => hno k hk (by omega))
      have hk : z.keeps p = true := (keeps_win hIz hs0 hs1).2 ⟨⟨by omega, by omega⟩, f1⟩
      have hmp : X.mput p.seq p.b z.E = z.E ++ [(p.seq, p.b)] := mput_out (fnd_none.1 f1)
      have hf : ∀ {w' L' m'} {As' : List Asn}, Ctx F m w w' L' m' (blk b (z.row (slV pp z.W.length) (slV q z.E.length)) 60 :: As') → FactsW [(⟨b, 8, none⟩, [slV q z.E.length])] w' L' := fun D => D.blkFact1 8 _ rfl (facts_nil _ _)
      refine ⟨_, hf D, q.1, z.E.length, q.2, by simp [Addr.add_mid, slV], fun w80 L81 h80 g80 => ?_⟩
      have D1 := (D.hidL h80 g80).newDrop [] 5
      obtain ⟨nb, m2, w85, hn1, hm2, hn2, hr, hkk, D2⟩ := app_bytes D1 p.b hd (some ⟨w80.heap.size, 0, none⟩)
      refine ⟨hf D1, nb.q, nb.bs.length, nb.c, w85, hr, hkk, hf D2, ?_⟩
      have D3 := D2.alloc (krow (p.seq, nb)) 96
      have hcl : Cells (w85.alloc (.cells (krow (p.seq, nb)).toArray 96)) ⟨w85.heap.size, 0, none⟩ (krow (p.seq, nb)) := D3.blkCells fun j v e => by rw [Nat.zero_add]; exact e
      refine ⟨hf D3.swap, ?_⟩
      have D4 := D3.pm [3, 0, 1, 2] rfl
      simp only [sel, nth, List.append_nil, List.cons_append, List.nil_append] at D4
      obtain ⟨q2, c2', w89, hr2, hk2, D5⟩ := D4.app (P := Try.prog) (bytes := 64) (t := 58) (t2 := 58) 58 (by kernel_rfl) (.some ⟨w85.heap.size, 0, none⟩ 1 1 (krow (p.seq, nb)) rfl hcl) (by omega) (krow_one _)
      have D6 := D5.pk [2, 3, 0] [1] rfl
      simp only [sel, nth] at D6
      refine ⟨q2, z.E.length + 1, c2', w89, hr2, hk2, hf D6, rfl, D6.there 8 1 (by simp), D6.blkAt.2, ?_⟩
      have D7 := D6.store 8 [.slice q2 (z.E.length + 1) c2'] (by simp)
      have he := hh nb
      rw [if_neg c3, if_pos hk] at he
      have hmp2 : X.mput p.seq nb z.E = z.E ++ [(p.seq, nb)] := mput_out (fnd_none.1 f1)
      have hx3 := hx2.mono hm2
      refine ⟨(nb, none, 0), m2, L81, by rw [he]; rfl, ⟨hn1, by rw [he]; simp, by
        rw [he]
        refine ⟨hx3.1, fun e hm => ?_⟩
        rcases mput_mem2 hm with rfl | hm
        · exact hn2
        · exact hx3.2 e hm⟩, ?_⟩
      rw [he]
      refine (Ctx.slNil (q := none) (ty := 35) (sz := 1) (rlI pp (q2, c2') ?_)).swap
      rw [hmp2]
      have e1 : (z.E ++ [(p.seq, nb)]).length = z.E.length + 1 := by simp
      have e2 : (z.E ++ [(p.seq, nb)]).flatMap krow = z.E.flatMap krow ++ krow (p.seq, nb) := by simp
      simp only [rlAs, keptA]
      rw [e1, e2]
      exact D7
  -- it comes
  rw [if_neg (by simpa using c3)]
  intro w39 L40 h39 g39
  have D1 := (C.hidL h39 g39).newDrop [] 5
  obtain ⟨nb, m2, w44, hn1, hm2, hn2, hr, hkk, D2⟩ := app_bytes D1 p.b hd (some ⟨w39.heap.size, 0, none⟩)
  refine ⟨nb.q, nb.bs.length, nb.c, w44, hr, hkk, ?_⟩
  have D3 := (D2.slNew (cs := [nb.V]) (n := 1) (ty := 35) (sz := 1) rfl (by simp [maxLen])).pm [1, 2, 3, 0] rfl
  simp only [sel, nth, List.append_nil, List.cons_append, List.nil_append] at D3
  refine ⟨z.want, hcw D3, D3.blkAt.2, rfl, D3.there 6 1 (by simp), D3.blkAt.2, ?_⟩
  have D4 := D3.store 6 [.int .u64 (IntKind.wrap .u64 (z.want + 1))] (by simp)
  have hx3 := hx2.mono hm2
  have hcome : comeF 8 (IntKind.wrap .u64 (z.want + 1)) z.E = comeF z.E.length (IntKind.wrap .u64 (z.want + 1)) z.E := comeF_fuel 8 _ _ hz8
  have he := hh nb
  rw [if_pos c3] at he
  have hcm : z.comes = (comeF 8 (IntKind.wrap .u64 (z.want + 1)) z.E).1 := by rw [Lk.comes, hcome]
  have hce : z.came = { z with want := (comeF 8 (IntKind.wrap .u64 (z.want + 1)) z.E).2.1, E := (comeF 8 (IntKind.wrap .u64 (z.want + 1)) z.E).2.2 } := by rw [Lk.came, hcome]
  refine ⟨fun qo kk c' n w' L' => ∃ (i : Nat) (done : List Br) (want : Int) (E : List (Int × Br)), n = i ∧ i ≤ 8 ∧ kk = done.length + 1 ∧ done.length ≤ 8 ∧ done.length = i ∧ E.length ≤ 8 ∧ ((comeF 8 (IntKind.wrap .u64 (z.want + 1)) z.E).1 = done ++ (comeF (8 - i) want E).1 ∧ (comeF 8 (IntKind.wrap .u64 (z.want + 1)) z.E).2 = (comeF (8 - i) want E).2) ∧ (∀ d ∈ done, BrM m2 d) ∧ (∀ e ∈ E, BrM m2 e.2) ∧
    Ctx F m w w' L' m2 [rlA b { z with want := want, E := E }, bodsA qo c' (nb :: done)], fun _ _ _ n _ => (8 - n).toNat, ⟨0, [], _, z.E, rfl, by omega, rfl, by simp, rfl, hz8, ⟨rfl, rfl⟩, by simp, hx3.2, ?_⟩, ?_⟩
  · refine rlI pp q ?_
    exact D4
  clear D4 D3 D2 D1 C hu
  rintro qo kk c' n w52 L53 _ ⟨i, done, want, E, rfl, hi, rfl, hdl, hdi, hE8, ⟨e1, e2⟩, hdn, hEm, D⟩
  have hret : ∀ {w' L'}, (comeF (8 - i) want E).1 = [] → (comeF (8 - i) want E).2 = (want, E) → Ctx F m w w' L' m2 [rlA b { z with want := want, E := E }, bodsA qo c' (nb :: done)] → ∃ (i : Br × Option Addr × Nat) (m' : Mem) (L : List Nat), Ending.returned (.slice qo (done.length + 1) c') = .returned (.slice i.2.1 (x.heard p i.1).1.length i.2.2) ∧ (i.1.bs = p.b.bs ∧ (∀ d ∈ (x.heard p i.1).1, BrM m' d) ∧ LkM m' (x.heard p i.1).2) ∧ Ctx F m w w' L m' [rlA b (x.heard p i.1).2, bodsA i.2.1 i.2.2 (x.heard p i.1).1] := by
    intro w' L' h1 h2 D
    rw [h1, List.append_nil] at e1
    rw [h2] at e2
    rw [e1] at hcm
    rw [e2] at hce
    refine ⟨(nb, qo, c'), m2, L', by rw [he, hcm]; rfl, ⟨hn1, by rw [he, hcm]; intro d hd; rcases List.mem_cons.1 hd with rfl | hd; exact hn2; exact hdn d hd, by rw [he, hce]; exact ⟨hx3.1, hEm⟩⟩, ?_⟩
    rw [he, hcm, hce]
    exact D
  by_cases hlt : i < 8
  rotate_left
  · rw [if_neg (by simp; omega)]
    have : 8 - i = 0 := by omega
    exact hret (by rw [this]; rfl) (by rw [this]; rfl) D
  rw [if_pos (by simp; omega)]
  obtain ⟨pp, q, D⟩ := rlO D
  refine ⟨want, by rw [Addr.add_mid]; exact D.blkCell (j := 6) rfl, D.blkAt.2, ?_⟩
  have hbL := D.blkAt.2
  refine (c_rkept b { z with want := want, E := E } want (by simp; omega)).call (As := [bodsA qo c' (nb :: done)]) (rlI pp q D) trivial fun _ m3 w56 hk hm3 _ D => ?_
  replace D := D.memle hm2 hm3
  obtain ⟨k, hki⟩ : ∃ k, 8 - i = k + 1 := ⟨8 - i - 1, by omega⟩
  cases hf : fnd want E with
  | none =>
    refine ⟨none, 0, 0, false, by simp only [keptR, hf], hk, ?_⟩
    rw [if_pos (by rfl)]
    have hm0 : X.mdel want E = E := (fnd_no fun j hj hx => fnd_none.1 hf (List.mem_map.2 ⟨E[j], List.getElem_mem hj, hx⟩)).2
    rw [hm0] at D
    have hn := comeF_none (n := 8 - i) hf
    rw [hn] at e1 e2
    simp only [List.append_nil] at e1
    rw [e1] at hcm
    rw [e2] at hce
    refine ⟨(nb, qo, c'), m2, L53, by rw [he, hcm]; rfl, ⟨hn1, by rw [he, hcm]; intro d hd; rcases List.mem_cons.1 hd with rfl | hd; exact hn2; exact hdn d hd, by rw [he, hce]; exact ⟨hx3.1, hEm⟩⟩, ?_⟩
    rw [he, hcm, hce]
    exact D
  | some v =>
    refine ⟨v.q, v.bs.length, v.c, true, by simp only [keptR, hf], hk, ?_⟩
    rw [if_neg (by simp)]
    have D1 := (D.alloc [v.V] 35).pm [2, 0, 1] rfl
    simp only [sel, nth, List.append_nil, List.cons_append, List.nil_append] at D1
    have hcl : Cells (w56.alloc (.cells [v.V].toArray 35)) ⟨w56.heap.size, 0, none⟩ [v.V] := (D.alloc [v.V] 35).blkCells fun j v e => by rw [Nat.zero_add]; exact e
    obtain ⟨q2, c2', w64, hr, hkk, D2⟩ := D1.app (P := Try.prog) (bytes := 64) (t := 50) (t2 := 50) 50 (by kernel_rfl) (.some ⟨w56.heap.size, 0, none⟩ 1 1 [v.V] rfl hcl) (by simp; omega) (by simp [oneC])
    have D3 := D2.pk [2, 0] [1] rfl
    simp only [sel, nth] at D3
    obtain ⟨pp, q, D3⟩ := rlO D3
    refine ⟨q2, done.length + 2, c2', w64, hr, hkk, want, by rw [Addr.add_mid]; exact D3.blkCell (j := 6) rfl, D3.blkAt.2, rfl, D3.there 6 1 (by simp), D3.blkAt.2, rfl, ?_⟩
    have D4 := D3.store 6 [.int .u64 (IntKind.wrap .u64 (want + 1))] (by simp)
    have hdl2 := fnd_del_len hf
    have e : IntKind.wrap .i64 ((i : Int) + 1) = ((i + 1 : Nat) : Int) := by rw [w_i64 (by omega) (by omega)]; omega
    rw [e]
    have hk1 : 8 - (i + 1) = k := by omega
    rw [hki, comeF_succ hf] at e1 e2
    refine ⟨⟨i + 1, done ++ [v], IntKind.wrap .u64 (want + 1), X.mdel want E, rfl, by omega, by simp, by simp; omega, by simp; omega, by omega, ⟨by rw [hk1, e1]; simp, by rw [hk1, e2]⟩, fun d hd => ?_, fun e he => hEm e (mem_del he), ?_⟩, Nat.le_of_eq (by show ((8 : Int) - ((i + 1 : Nat) : Int)).toNat + 1 = ((8 : Int) - (i : Int)).toNat; omega)⟩
    · rcases List.mem_append.1 hd with hd | hd
      · exact hdn d hd
      · simp only [List.mem_singleton] at hd; subst hd; exact hEm _ (fnd_mem hf)
    · have e5 : (nb :: (done ++ [v])).length = (nb :: done).length + 1 := by simp
      have e6 : (nb :: (done ++ [v])).map Br.V = (nb :: done).map Br.V ++ [v.V] := by simp
      unfold bodsA
      rw [e5, e6]
      exact rlI pp q D4
end Go.Proofs
