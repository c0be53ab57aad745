import Derived.Test.YtfbjellaijdgbaaDoorXPm
set_option linter.unusedVariables false
set_option linter.unusedSimpArgs false
/- The engine, part 24: parts of owned slices; elements written. -/
namespace Go.X
open Go RowKit
section
variable {F0 : List Nat} {m0 : Mem} {w0 w : World} {L : List Nat} {m : Mem} {As : List Asn} {q : Option Addr} {n c : Nat} {cs : List Value} {ty : TypeId} {sz : Nat}
/-- an owned slice, cut: the same room -/
theorem Ctx.slTake (C : Ctx F0 m0 w0 w L m (slA (.slice q n c) n cs ty sz :: As)) (k : Nat) (hk : k ≤ n) : Ctx F0 m0 w0 w L m (slA (.slice q k c) k (cs.take (k * sz)) ty sz :: As) := by
  obtain ⟨q', cap', e, h2, h3, h4, h⟩ := C.slO
  injection e with e1 _ e2; subst e1; subst e2
  rcases h with ⟨rfl, C⟩ | ⟨b, pre, rest, rfl, hl, C⟩
  · obtain rfl : k = 0 := by omega
    rw [Nat.zero_mul, List.take_zero]
    exact Ctx.slNil ‹Ctx F0 m0 w0 w L m As›
  · have hks : k * sz ≤ n * sz := Nat.mul_le_mul_right _ hk
    refine Ctx.slI (rest := cs.drop (k * sz) ++ rest) ?_ (by rw [List.length_take]; omega) (by omega) h4 ?_ C
    · have := List.take_append_drop (k * sz) cs
      conv => lhs; rw [← this]
      simp only [List.append_assoc]
    · rw [List.length_append, List.length_drop, h2]
      have : (c - k) * sz = (c - n) * sz + (n - k) * sz := by rw [← Nat.add_mul]; congr 1; omega
      rw [this, Nat.sub_mul n k]; omega
/-- what stands in its first elements .. -/
theorem Ctx.srcTake (C : Ctx F0 m0 w0 w L m (slA (.slice q n c) n cs ty sz :: As)) (k : Nat) (hk : k ≤ n) (c2 : Nat) : Src w sz (.slice (cutA q c 0 sz) k c2) k (cs.take (k * sz)) := by
  have hcap := C.slCells
  obtain ⟨q', cap', e, h2, h3, h4, h⟩ := C.slO
  injection e with e1 _ e2; subst e1; subst e2
  by_cases h0 : k = 0
  · subst h0; rw [Nat.zero_mul, List.take_zero]; exact .none _ _
  · rcases h with ⟨rfl, C⟩ | ⟨b, pre, rest, rfl, hl, C⟩
    · omega
    · have ec : cutA (some ⟨b, pre.length, none⟩) c 0 sz = some ⟨b, pre.length, none⟩ := by
        unfold cutA; split
        · rfl
        · simp [Addr.add]
      rw [ec]
      refine .some _ _ _ _ (by rw [List.length_take, h2]; have := Nat.mul_le_mul_right sz hk; omega) ?_
      have hc := (hcap.1 _ rfl).1
      intro j v hj
      refine hc j v ?_
      rw [List.getElem?_take] at hj
      split at hj
      · exact hj
      · cases hj
/-- .. and in its last -/
theorem Ctx.srcDrop (C : Ctx F0 m0 w0 w L m (slA (.slice q n c) n cs ty sz :: As)) (k : Nat) (hk : k ≤ n) (c2 : Nat) : Src w sz (.slice (cutA q c k sz) (n - k) c2) (n - k) (cs.drop (k * sz)) := by
  have hcap := C.slCells
  obtain ⟨q', cap', e, h2, h3, h4, h⟩ := C.slO
  injection e with e1 _ e2; subst e1; subst e2
  by_cases h0 : n - k = 0
  · rw [h0]
    have : cs.drop (k * sz) = [] := by
      apply List.drop_eq_nil_of_le
      rw [h2]; exact Nat.mul_le_mul_right _ (by omega)
    rw [this]; exact .none _ _
  · rcases h with ⟨rfl, C⟩ | ⟨b, pre, rest, rfl, hl, C⟩
    · omega
    · have ec : cutA (some ⟨b, pre.length, none⟩) c k sz = some ((⟨b, pre.length, none⟩ : Addr).add (k * sz)) := by
        unfold cutA; rw [if_neg (by omega)]; rfl
      rw [ec]
      refine .some _ _ _ _ (by rw [List.length_drop, h2, Nat.sub_mul]) ?_
      exact cells_part (hcap.1 _ rfl).1 _ _ fun j v hj => by rw [List.getElem?_drop] at hj; exact hj
/-- cells of an owned slice, written -/
theorem Ctx.slPut (C : Ctx F0 m0 w0 w L m (slA (.slice q n c) n cs ty sz :: As)) (o : Nat) (v : Value) (vs : List Value) (h : o + (v :: vs).length ≤ cs.length) :
    ∃ a, q = some a ∧ a.spot = none ∧ World.there w a.block (a.off + o) (v :: vs).length ∧ a.block ∉ L ∧ Ctx F0 m0 w0 (w.setCells a.block (a.off + o) (v :: vs)) L m (slA (.slice (some a) n c) n (splice cs o (v :: vs)) ty sz :: As) := by
  obtain ⟨q', cap', e, h2, h3, h4, h'⟩ := C.slO
  injection e with e1 _ e2; subst e1; subst e2
  simp only [List.length_cons] at h
  rcases h' with ⟨rfl, C⟩ | ⟨b, pre, rest, rfl, hl, C⟩
  · have : n = 0 := by omega
    subst this; simp at h2; subst h2; simp at h
  · refine ⟨_, rfl, rfl, C.there _ _ (by simp only [List.length_append, List.length_cons]; omega), C.blkAt.2, ?_⟩
    have C2 := C.store (pre.length + o) (v :: vs) (by simp only [List.length_append, List.length_cons]; omega)
    refine Ctx.slI (rest := rest) ?_ (by simp only [splice, List.length_append, List.length_take, List.length_drop, List.length_cons]; omega) h3 h4 hl C2
    simp only [splice, List.append_assoc]
    rw [List.take_length_add_append, List.take_append_of_le_length (by omega), Nat.add_assoc, List.drop_length_add_append, List.drop_append_of_le_length (by simp only [List.length_cons]; omega)]
    simp
end
section
variable {α : Type} {f : α → List Value} {k : Nat}
theorem flat_put (hk : ∀ a, (f a).length = k) {vs : List Value} {o : Nat} {b : α} : ∀ (l : List α) (i : Nat) (hi : i < l.length) (ho : o + vs.length ≤ k) (hb : f b = splice (f l[i]) o vs), splice (l.flatMap f) (i * k + o) vs = (l.set i b).flatMap f
  | a :: l, 0, hi, ho, hb => by
    simp only [List.getElem_cons_zero] at hb
    rw [List.set_cons_zero, List.flatMap_cons, List.flatMap_cons, hb, Nat.zero_mul, Nat.zero_add]
    have := hk a
    simp only [splice]
    rw [List.take_append_of_le_length (by omega), List.drop_append_of_le_length (by omega), List.append_assoc (_ ++ _)]
  | a :: l, i + 1, hi, ho, hb => by
    have ih := flat_put hk l i (by simpa using hi) ho (by simpa using hb)
    rw [List.set_cons_succ, List.flatMap_cons, List.flatMap_cons, ← ih]
    have := hk a
    simp only [splice]
    rw [show (i + 1) * k + o = (f a).length + (i * k + o) from by rw [this, Nat.succ_mul]; omega, List.take_length_add_append, Nat.add_assoc, List.drop_length_add_append]
    simp only [List.append_assoc]
end
section
variable {P : Program} {F0 : List Nat} {m0 : Mem} {w0 w : World} {L : List Nat} {m : Mem} {As : List Asn}
/-- an append, its bounds exact -/
theorem Ctx.app2 {v : Value} {n : Nat} {cs : List Value} {e : TypeId} {sz bytes : Nat} (C : Ctx F0 m0 w0 w L m (slA v n cs e sz :: As))
    {t t2 : TypeId} (ty : TypeId) (hB : appB P t t2 e sz bytes = true) {x : Value} {k : Nat} {news : List Value} (hs : Src w sz x k news) (h63 : n + k ≤ maxLen) (h48 : (n + k) * bytes ≤ 140737488355328) (hone : ∀ u ∈ news, oneC u = true) :
    ∃ q cap w', (Builtin.append_ #[t, t2] ty #[v, x]).run P w = .ok (.slice q (n + k) cap) w' ∧ Kept L w w' ∧ Ctx F0 m0 w0 w' L m (slA (.slice q (n + k) cap) (n + k) (cs ++ news) e sz :: As) := by
  simp only [appB, Bool.and_eq_true] at hB
  obtain ⟨⟨h1, h2⟩, h3⟩ := hB
  split at h1
  · rename_i e' he
    have : e' = e := by simpa using h1
    subst this
    split at h3
    · rename_i i hi
      simp only [Bool.and_eq_true, beq_iff_eq, decide_eq_true_eq] at h3
      obtain ⟨⟨g1, g2⟩, g3⟩ := h3
      split at g3
      · rename_i z hz
        have hle : (n + k) * i.bytes ≤ (n + k) * bytes := Nat.mul_le_mul_left _ g2
        exact C.append he h2 hi hz g1 (by simpa using g3) hs h63 (by omega) hone
      · cases g3
    · cases h3
  · cases h1
end
end Go.X
