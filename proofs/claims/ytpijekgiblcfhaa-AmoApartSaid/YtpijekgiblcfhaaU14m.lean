import Derived.Test.YtpijekgiblcfhaaU14l
set_option linter.unusedVariables false
set_option linter.unusedSimpArgs false
set_option maxRecDepth 10000
namespace Go.Proofs
open Go X RowKit
theorem rw_ext {a b : Rw} (h : a.id = b.id ∧ a.ended = b.ended ∧ a.code = b.code ∧ a.val = b.val) : a = b := by cases a; cases b; simp_all
instance : DecidableEq Rw := fun a b => decidable_of_iff (a.id = b.id ∧ a.ended = b.ended ∧ a.code = b.code ∧ a.val = b.val) ⟨rw_ext, fun h => by subst h; exact ⟨rfl, rfl, rfl, rfl⟩⟩
theorem ba_eq (a b : ByteArray) : (a == b) = true ↔ a = b := by
  obtain ⟨a⟩ := a
  obtain ⟨b⟩ := b
  constructor
  · intro h
    have : (a == b) = true := h
    rw [beq_iff_eq.1 this]
  · intro h
    injection h with h; subst h
    show (a == a) = true
    simp
theorem rw_eq (a b : Rw) : ((((a.id.n == b.id.n) && (a.id.l == b.id.l)) && ((a.id.s == b.id.s) && ((a.id.d == b.id.d) && (((a.id.g0 == b.id.g0) && (a.id.i0 == b.id.i0)) && (((a.id.g1 == b.id.g1) && (a.id.i1 == b.id.i1)) && ((a.id.g2 == b.id.g2) && (a.id.i2 == b.id.i2))))))) && ((a.ended == b.ended) && ((a.code == b.code) && (a.val == b.val)))) = decide (a = b) := by
  rw [Bool.eq_iff_iff, decide_eq_true_eq, Bool.and_eq_true, i_eq]
  simp only [Bool.and_eq_true, beq_iff_eq, ba_eq]
  exact ⟨fun h => rw_ext h, fun h => by subst h; exact ⟨rfl, rfl, rfl, rfl⟩⟩
def sameR (r s : Rt) : Bool := decide (r.win = s.win ∧ r.L = s.L ∧ r.F.length = s.F.length ∧ ∀ x ∈ r.F, floorF s.F x.1 = x.2)
theorem sameR_no {r s : Rt} (h : ¬ (r.win = s.win ∧ r.L = s.L ∧ r.F.length = s.F.length ∧ ∀ x ∈ r.F, floorF s.F x.1 = x.2)) : sameR r s = false := by rw [sameR, decide_eq_false_iff_not]; exact h
theorem c_rSame (b b' : Nat) (r s : Rt) (hr : r.Ok) (hs : s.Ok) : Ctr Try.prog 16 #[.pointer (some ⟨b, 0, none⟩), .pointer (some ⟨b', 0, none⟩)] noMem [rtA b r, rtA b' s] (fun _ : Unit => .bool (sameR r s)) (fun _ _ => True) (fun _ => [rtA b r, rtA b' s]) := by
  refine Ctr.mk fun w F m C _ => x_rSame _ _ w _ ?_
  obtain ⟨p, q, C⟩ := rtO C
  obtain ⟨p', q', C⟩ := rtO (C.pm [3, 0, 1, 2] rfl)
  replace C : Ctx F m w w [] m [blk b' (s.cells p' q') 82, rwsA p' s.L, frsA q' s.F, blk b (r.cells p q) 82, rwsA p r.L, frsA q r.F] := C
  have c' : ∀ {w' L' m'}, Ctx F m w w' L' m' [blk b' (s.cells p' q') 82, rwsA p' s.L, frsA q' s.F, blk b (r.cells p q) 82, rwsA p r.L, frsA q r.F] → ∀ {j v}, (s.cells p' q')[j]? = some v → w'.cell? ((⟨b', 0, none⟩ : Addr).add j) = some v := fun {w' L' m'} D {j v} h => by rw [Addr.add_mid, Nat.zero_add]; exact D.blkCell h
  have c : ∀ {w' L' m'}, Ctx F m w w' L' m' [blk b' (s.cells p' q') 82, rwsA p' s.L, frsA q' s.F, blk b (r.cells p q) 82, rwsA p r.L, frsA q r.F] → ∀ {j v}, (r.cells p q)[j]? = some v → w'.cell? ((⟨b, 0, none⟩ : Addr).add j) = some v := fun {w' L' m'} D {j v} h => by
    rw [Addr.add_mid, Nat.zero_add]; exact (D.pm [3, 4, 5, 0, 1, 2] rfl).blkCell h
  have bk : ∀ {w' L' m'}, Ctx F m w w' L' m' [blk b' (s.cells p' q') 82, rwsA p' s.L, frsA q' s.F, blk b (r.cells p q) 82, rwsA p r.L, frsA q r.F] → Ctx F m w w' L' m' [rtA b r, rtA b' s] := fun D => by
    have D1 : Ctx F m w _ _ _ ([rtA b' s] ++ [blk b (r.cells p q) 82, rwsA p r.L, frsA q r.F]) := rtI p' q' D
    have D2 : Ctx F m w _ _ _ (rtAs b r p q ++ [rtA b' s]) := D1.pm [1, 2, 3, 0] rfl
    exact rtI p q D2
  have hll := hr.ll
  have hfl := hr.fl
  refine ⟨r.win, c C (j := 0) rfl, s.win, c' C (j := 0) rfl, ?_⟩
  by_cases hw : r.win = s.win
  rotate_left
  · rw [if_neg (by simpa using hw)]
    intro w3 h3
    exact Ctr.ret () (by rw [sameR_no fun h => hw h.1]) trivial (bk (C.hid0 h3))
  rw [if_pos (by simp [hw])]
  refine ⟨_, _, _, c C (j := 1) rfl, _, _, _, c' C (j := 1) rfl, ?_⟩
  by_cases hl : r.L.length = s.L.length
  rotate_left
  · rw [if_neg (by simp; omega)]
    intro w3 h3
    exact Ctr.ret () (by rw [sameR_no fun h => hl (by rw [h.2.1])]) trivial (bk (C.hid0 h3))
  rw [if_pos (by simp [hl])]
  refine ⟨_, _, _, c C (j := 2) rfl, _, _, _, c' C (j := 2) rfl, ?_⟩
  by_cases hf : r.F.length = s.F.length
  rotate_left
  · rw [if_pos (by simp; omega)]
    intro w3 h3
    exact Ctr.ret () (by rw [sameR_no fun h => hf h.2.2.1]) trivial (bk (C.hid0 h3))
  rw [if_neg (by simp [hf])]
  intro w17 h17
  replace C := C.hid0 h17
  refine ⟨fun i w' _ => ∃ j : Nat, i = j ∧ j ≤ r.L.length ∧ r.L.take j = s.L.take j ∧ Ctx F m w w' [] m [blk b' (s.cells p' q') 82, rwsA p' s.L, frsA q' s.F, blk b (r.cells p q) 82, rwsA p r.L, frsA q r.F], fun i _ => (r.L.length - i).toNat, ⟨0, rfl, by omega, rfl, C⟩, ?_⟩
  clear C h17
  rintro i w21 L22 _ ⟨j, rfl, hj, hjt, D⟩
  refine ⟨_, _, _, c D (j := 1) rfl, ?_⟩
  by_cases hjl : j < r.L.length
  · rw [if_pos (by simpa using hjl)]
    obtain ⟨a1, ha1, hc1, _⟩ := sl_elem rw_len (by decide) (D.pm [4, 0, 1, 2, 3, 5] rfl) hjl
    obtain ⟨a2, ha2, hc2, _⟩ := sl_elem rw_len (by decide) (D.pm [1, 0, 2, 3, 4, 5] rfl) (show j < s.L.length by omega)
    refine ⟨_, _, _, c D (j := 1) rfl, by omega, by simpa using hjl, ?_⟩
    rw [ha1, onSome_some]
    refine ⟨_, _, _, _, _, _, _, _, _, _, _, _, _, by rw [Int.toNat_natCast]; exact hc1, _, _, _, c' D (j := 1) rfl, by omega, by omega, ?_⟩
    rw [ha2, onSome_some]
    refine ⟨_, _, _, _, _, _, _, _, _, _, _, _, _, by rw [Int.toNat_natCast]; exact hc2, ?_⟩
    rw [rw_eq]
    by_cases he : r.L[j] = s.L[j]
    · rw [if_neg (by simp [he])]
      intro w84 h84
      have e : IntKind.wrap .i64 ((j : Int) + 1) = ((j + 1 : Nat) : Int) := by rw [w_i64 (by omega) (by omega)]; omega
      rw [e]
      refine ⟨⟨j + 1, rfl, hjl, ?_, D.hid0 h84⟩, Nat.le_of_eq (by show ((r.L.length : Int) - ((j + 1 : Nat) : Int)).toNat + 1 = ((r.L.length : Int) - (j : Int)).toNat; omega)⟩
      rw [List.take_succ_eq_append_getElem hjl, List.take_succ_eq_append_getElem (by omega : j < s.L.length), hjt, he]
    · rw [if_pos (by simp [he])]
      intro w85 h85
      refine Ctr.ret () ?_ trivial (bk (D.hid0 h85))
      rw [sameR_no fun h => he ?_]
      simp only [h.2.1]
  rw [if_neg (by simpa using hjl)]
  have hLL : r.L = s.L := by
    have h1 : j = r.L.length := by omega
    rw [h1, List.take_length, hl, List.take_length] at hjt
    exact hjt
  clear hjt hjl hj
  refine ⟨fun i w' _ => ∃ (j : Nat) (m' : Mem), i = j ∧ j ≤ r.F.length ∧ (∀ x ∈ r.F.take j, floorF s.F x.1 = x.2) ∧ Ctx F m w w' [] m' [rtA b r, rtA b' s], fun i _ => (r.F.length - i).toNat, ⟨0, m, rfl, by omega, by simp, (bk D).noL⟩, ?_⟩
  clear D c c' bk
  rintro i w29 L30 _ ⟨j, m1, rfl, hj, hjt, D⟩
  obtain ⟨p, q, D⟩ := rtO D
  replace D : Ctx F m w w29 [] m1 [blk b (r.cells p q) 82, rwsA p r.L, frsA q r.F, rtA b' s] := D
  refine ⟨_, _, _, by rw [Addr.add_mid]; exact D.blkCell (j := 2) rfl, ?_⟩
  by_cases hjl : j < r.F.length
  rotate_left
  · rw [if_neg (by simpa using hjl)]
    have h1 : j = r.F.length := by omega
    rw [h1, List.take_length] at hjt
    refine Ctr.ret () ?_ trivial (rtI p q D)
    rw [show sameR r s = true from decide_eq_true ⟨hw, hLL, hf, hjt⟩]
  rw [if_pos (by simpa using hjl)]
  obtain ⟨q1, q2⟩ := q
  obtain ⟨a1, ha1, hc1, _⟩ := sl_elem fr_len (by decide) (D.pm [2, 0, 1, 3] rfl) hjl
  simp only at ha1
  subst ha1
  have h10' : ∀ k v, [Value.int .u8 r.F[j].1.1, .int .u16 r.F[j].1.2][k]? = some v → (r.F.flatMap frow)[j * 3 + k]? = some v := fun k v h => flat_at fr_len _ _ hjl _ _ (by match k, h with | 0, h | 1, h => exact h)
  have h2' : ∀ k v, [Value.int .u32 r.F[j].2][k]? = some v → (r.F.flatMap frow)[j * 3 + 2 + k]? = some v := fun k v h => by
    rw [Nat.add_assoc]; exact flat_at fr_len _ _ hjl _ _ (by match k, h with | 0, h => exact h)
  have hfw : ∀ {w' m'}, Ctx F m w w' [] m' [blk b (r.cells p (some a1, q2)) 82, rwsA p r.L, frsA (some a1, q2) r.F, rtA b' s] → FactsW [(a1.add (j * 3), [.int .u8 r.F[j].1.1, .int .u16 r.F[j].1.2]), (a1.add (j * 3 + 2), [.int .u32 r.F[j].2]), (⟨b, 2, none⟩, [.slice (some a1) r.F.length q2])] w' [] := fun D =>
    (D.pm [2, 0, 1, 3] rfl).slFact (j * 3) _ _ h10' ((D.pm [2, 0, 1, 3] rfl).slFact (j * 3 + 2) _ _ h2' (D.blkFact1 2 _ rfl (facts_nil _ _)))
  refine ⟨_, hfw D, some a1, r.F.length, q2, by simp [Addr.add_mid], by omega, by simpa using hjl, ?_⟩
  rw [onSome_some]
  refine ⟨r.F[j].1.1, r.F[j].1.2, by rw [Int.toNat_natCast, Addr.add_zero']; exact List.mem_cons_self, some a1, r.F.length, q2, by simp [Addr.add_mid], by omega, by simpa using hjl, ?_⟩
  rw [onSome_some]
  refine ⟨r.F[j].2, by rw [Int.toNat_natCast, Addr.add_add]; simp, fun w46 h46 => ?_⟩
  have D1 := (D.hid0 h46).pm [3, 0, 1, 2] rfl
  refine (c_rFloor b' s r.F[j].1 hs).call (As := [_, _, _]) D1 trivial fun _ m2 w48 hk hm _ D2 => ⟨_, rfl, hk.size, ?_⟩
  replace D2 : Ctx F m w w48 [] m2 [blk b (r.cells p (some a1, q2)) 82, rwsA p r.L, frsA (some a1, q2) r.F, rtA b' s] := D2.pm [1, 2, 3, 0] rfl
  refine ⟨hfw D2, ?_⟩
  by_cases he : floorF s.F r.F[j].1 = r.F[j].2
  · rw [if_neg (by simp [he])]
    have e : IntKind.wrap .i64 ((j : Int) + 1) = ((j + 1 : Nat) : Int) := by rw [w_i64 (by omega) (by omega)]; omega
    rw [e]
    refine ⟨⟨j + 1, m2, rfl, hjl, fun x hx => ?_, rtI p (some a1, q2) D2⟩, Nat.le_of_eq (by show ((r.F.length : Int) - ((j + 1 : Nat) : Int)).toNat + 1 = ((r.F.length : Int) - (j : Int)).toNat; omega)⟩
    rw [List.take_succ_eq_append_getElem hjl] at hx
    rcases List.mem_append.1 hx with hx | hx
    · exact hjt x hx
    · simp only [List.mem_singleton] at hx; subst hx; exact he
  · rw [if_pos (by simpa using he)]
    refine Ctr.ret () ?_ trivial (rtI p (some a1, q2) D2)
    rw [sameR_no fun h => he (h.2.2.2 _ (List.getElem_mem hjl))]
end Go.Proofs
