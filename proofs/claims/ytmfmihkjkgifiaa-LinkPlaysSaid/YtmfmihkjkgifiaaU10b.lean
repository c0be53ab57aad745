import Derived.Test.YtmfmihkjkgifiaaU10a
set_option linter.unusedVariables false
set_option linter.unusedSimpArgs false
set_option maxRecDepth 10000
namespace Go.Proofs
open Go X RowKit
/-! ### what came is let go -/
/-- how many go -/
def ackN (ack : Int) : List Sr → Nat
  | [] => 0
  | s :: l => if s.seq < ack then ackN ack l + 1 else 0
theorem ackN_le (ack : Int) : ∀ l, ackN ack l ≤ l.length
  | [] => Nat.le_refl _
  | s :: l => by unfold ackN; split <;> simp [ackN_le ack l]
theorem ackN_lt (ack : Int) : ∀ (l : List Sr) (i : Nat), i < ackN ack l → ∃ h : i < l.length, l[i].seq < ack
  | [], i, h => by simp [ackN] at h
  | s :: l, i, h => by
    unfold ackN at h
    split at h
    · rename_i hs
      cases i with
      | zero => exact ⟨by simp, hs⟩
      | succ i =>
        obtain ⟨h1, h2⟩ := ackN_lt ack l i (by omega)
        exact ⟨by simp; omega, h2⟩
    · omega
theorem ackN_ge (ack : Int) : ∀ (l : List Sr) (i : Nat) (hi : i < l.length), i ≤ ackN ack l → (i = ackN ack l ↔ ¬ l[i].seq < ack)
  | s :: l, 0, _, _ => by
    unfold ackN
    split
    · rename_i hs; constructor
      · intro h; omega
      · intro h; exact absurd hs h
    · rename_i hs; exact ⟨fun _ => hs, fun _ => rfl⟩
  | s :: l, i + 1, hi, h => by
    unfold ackN at h ⊢
    split at h
    · rename_i hs
      rw [if_pos hs]
      have := ackN_ge ack l i (by simpa using hi) (by omega)
      simp only [List.getElem_cons_succ]
      rw [← this]; omega
    · omega
def Lk.acked (x : Lk) (ack : Int) : Lk := if ack > x.next then x else { x with W := x.W.drop (ackN ack x.W) }
/-- the first elements of an owned slice are given up -/
theorem slCut {q : Option Addr} {n c : Nat} {cs : List Value} {ty : TypeId} {sz : Nat} {F0 : List Nat} {m0 : Mem} {w0 w : World} {L : List Nat} {m : Mem} {As : List Asn} (C : Ctx F0 m0 w0 w L m (slA (.slice q n c) n cs ty sz :: As)) (k : Nat) (hk : k ≤ n) :
    Ctx F0 m0 w0 w L m (slA (.slice (X.cutA q c k sz) (n - k) (c - k)) (n - k) (cs.drop (k * sz)) ty sz :: As) := by
  obtain ⟨q', cap', e, h2, h3, h4, h⟩ := C.slO
  injection e with e1 _ e2; subst e1; subst e2
  have hm : (n - k) * sz = n * sz - k * sz := Nat.sub_mul ..
  rcases h with ⟨rfl, C'⟩ | ⟨b, pre, rest, rfl, hl, C'⟩
  · obtain rfl : n = 0 := by omega
    obtain rfl : k = 0 := by omega
    have : cs = [] := List.eq_nil_of_length_eq_zero (by rw [h2]; simp)
    subst this
    simpa using C'.slNil
  · by_cases hkc : k = c
    · -- all is given up
      have hn : n = c := by omega
      subst hn; subst hkc
      have e0 : (cs.drop (k * sz)) = [] := List.drop_eq_nil_of_le (by omega)
      rw [e0, Nat.sub_self]
      exact C'.drop.slNil
    · have e1 : X.cutA (some ⟨b, pre.length, none⟩) c k sz = some ⟨b, (pre ++ cs.take (k * sz)).length, none⟩ := by
        have hle : k * sz ≤ n * sz := Nat.mul_le_mul_right _ hk
        unfold X.cutA
        rw [if_neg (by simpa using fun h => hkc (by omega))]
        simp only [Option.map_some, Addr.add_mid]
        rw [List.length_append, List.length_take, Nat.min_eq_left (by omega)]
      rw [e1]
      refine Ctx.slI (pre := pre ++ cs.take (k * sz)) (rest := rest) ?_ (by rw [List.length_drop, h2, hm]) (by omega) (by omega) (by rw [show c - k - (n - k) = c - n by omega]; exact hl) C'
      simp [List.append_assoc]
theorem seq_cell {w : World} {a : Addr} {l : List Sr} (h : Cells w a (rows l)) (i : Nat) (hi : i < l.length) : w.cell? ((a.add (i * 4)).add 0) = some (.int .u64 l[i].seq) := cells_elem row_len h i hi 0 _ rfl
theorem rows_ne {l : List Sr} {i : Nat} (h : i < l.length) : rows l ≠ [] := fun e => by have := rows_len l; rw [e] at this; simp at this; omega
theorem slice_some {q : Option Addr} {n c : Nat} {cs : List Value} {ty : TypeId} {sz : Nat} {F0 : List Nat} {m0 : Mem} {w0 w : World} {L : List Nat} {m : Mem} {As : List Asn} (C : Ctx F0 m0 w0 w L m (slA (.slice q n c) n cs ty sz :: As)) (h : cs ≠ []) : ∃ a, q = some a := by
  cases q with
  | none => exact absurd (C.slCells.2 rfl) h
  | some a => exact ⟨a, rfl⟩
theorem rows_drop (l : List Sr) (k : Nat) : (rows l).drop (k * 4) = rows (l.drop k) := flat_drop row_len l k
theorem c_acked (b : Nat) (x : Lk) (ack : Int) (hl : x.W.length ≤ 32) :
    Ctr Try.prog 34 #[.pointer (some ⟨b, 0, none⟩), .int .u64 ack] noMem [lkA b x] (fun _ : Unit => .tuple #[]) (fun _ _ => True) (fun _ => [lkA b (x.acked ack)]) := by
  refine Ctr.mk fun w F m C _ => x_link_Link_acked _ ack w _ ?_
  obtain ⟨q, c, mb, C⟩ := lkO C
  refine ⟨x.next, by rw [Addr.add_mid]; exact C.blkCell (j := 5) rfl, ?_⟩
  by_cases h1 : ack > x.next
  · rw [if_pos (by simpa using h1)]
    have e : x.acked ack = x := by rw [Lk.acked, if_pos h1]
    exact Ctr.ret () rfl trivial (by rw [e]; exact lkI C)
  rw [if_neg (by simpa using h1)]
  have eA : x.acked ack = { x with W := x.W.drop (ackN ack x.W) } := by rw [Lk.acked, if_neg h1]
  refine ⟨fun n w' _ => ∃ k : Nat, n = k ∧ k ≤ ackN ack x.W ∧ Ctx F m w w' [] m [lkB b x (.slice q x.W.length c) (.map (some mb)), rowsA q c x.W, earlyA mb x.E], fun n _ => (x.W.length - n).toNat, ⟨0, rfl, by omega, C⟩, ?_⟩
  rintro n w5 L _ ⟨k, rfl, hk, D⟩
  have hle := ackN_le ack x.W
  have hcell : w5.cell? ((⟨b, 0, none⟩ : Addr).add 7) = some (.slice q x.W.length c) := by rw [Addr.add_mid]; exact D.blkCell (j := 7) rfl
  -- the end: all below k go
  have fin : ∀ R : Ending → World → Prop, k = ackN ack x.W → (∀ w', Ctx F m w w' [] m [lkA b (x.acked ack)] → R (.returned (.tuple #[])) w') → ∃ q18 : Option Addr, ∃ k19 : Nat, ∃ k20 : Nat, (World.cell? w5 ((⟨b, 0, none⟩ : Addr).add 7) = some (.slice (q18) k19 k20)) ∧ ((0 : Int) ≤ (k : Int)) ∧ ((k : Int) ≤ ((k19 : Nat) : Int)) ∧ ((none : Option Nat) = none) ∧ (World.there w5 b (0 + 7) 1) ∧
     R (.returned (.tuple #[])) (w5.setCells b (0 + 7) [(.slice (X.cutA (q18) k20 (k : Int).toNat 4) (k19 - (k : Int).toNat) (k20 - (k : Int).toNat))]) := by
    intro R hkk hR
    refine ⟨q, x.W.length, c, hcell, by omega, by omega, rfl, D.there _ _ (by simp), hR _ ?_⟩
    have D1 := (D.store 7 [.slice (X.cutA q c k 4) (x.W.length - k) (c - k)] (by simp)).swap
    have D2 := (slCut D1 k (by omega)).swap
    rw [eA, ← hkk]
    refine lkI (q := X.cutA q c k 4) (c := c - k) (mb := mb) ?_
    show Ctx _ _ _ _ _ _ (blk b (Lk.row _ (.slice (X.cutA q c k 4) (x.W.drop k).length (c - k)) _) 82 :: slA (.slice (X.cutA q c k 4) (x.W.drop k).length (c - k)) (x.W.drop k).length (rows (x.W.drop k)) 86 4 :: _)
    rw [← rows_drop, List.length_drop]
    simpa [splice] using D2
  refine ⟨q, x.W.length, c, hcell, ?_⟩
  by_cases h2 : k < x.W.length
  · rw [if_pos (by simpa using h2)]
    obtain ⟨a, rfl⟩ := slice_some D.swap (rows_ne h2)
    refine ⟨some a, x.W.length, c, hcell, by omega, by omega, ?_⟩
    rw [onSome_some]
    refine ⟨x.W[k].seq, seq_cell (D.swap.slCells.1 a rfl).1 k h2, ?_⟩
    by_cases h3 : x.W[k].seq < ack
    · rw [if_pos (by simpa using h3)]
      have hlt : k < ackN ack x.W := by
        rcases Nat.lt_or_ge k (ackN ack x.W) with h | h
        · exact h
        · exact absurd h3 ((ackN_ge ack x.W k h2 hk).1 (by omega))
      have e : IntKind.wrap .i64 ((k : Int) + 1) = ((k + 1 : Nat) : Int) := by rw [w_i64 (by omega) (by omega)]; omega
      rw [e]
      exact ⟨⟨k + 1, rfl, hlt, D⟩, Nat.le_of_eq (by show ((x.W.length : Int) - ((k + 1 : Nat) : Int)).toNat + 1 = ((x.W.length : Int) - (k : Int)).toNat; omega)⟩
    · rw [if_neg (by simpa using h3)]
      exact fin (fun e w' => ∃ (_ : Unit) (m' : Mem) (L : List Nat), e = .returned (.tuple #[]) ∧ True ∧ Ctx F m w w' L m' [lkA b (x.acked ack)]) ((ackN_ge ack x.W k h2 hk).2 h3) fun w' D => ⟨(), m, [], rfl, trivial, D⟩
  · rw [if_neg (by simpa using h2)]
    exact fin (fun e w' => ∃ (_ : Unit) (m' : Mem) (L : List Nat), e = .returned (.tuple #[]) ∧ True ∧ Ctx F m w w' L m' [lkA b (x.acked ack)]) (by omega) fun w' D => ⟨(), m, [], rfl, trivial, D⟩
end Go.Proofs
