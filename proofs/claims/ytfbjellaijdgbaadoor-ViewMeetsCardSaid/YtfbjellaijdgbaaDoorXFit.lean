import Derived.Test.YtfbjellaijdgbaaDoorXLaw
set_option linter.unusedVariables false
set_option linter.unusedSimpArgs false
/- The engine, part 14: what the cells of a type that can be read look like. -/
namespace Go.X
open Go RowKit
/-- a cell of a shape, as data has it -/
def Fit1 : Ty → Value → Prop
  | .int k, v => ∃ n, v = .int k n ∧ (Lit.int k n).wf = true
  | .bool, v => ∃ b, v = .bool b
  | .str, v => ∃ s : ByteArray, v = .string s ∧ s.size ≤ maxLen
  | .ptr, v => ∃ q, v = .pointer q
  | .slice, v => ∃ q l c, v = .slice q l c ∧ l ≤ c ∧ c ≤ maxLen
  | .map, v => ∃ q, v = .map q
  | .any, _ => True
def Fit : List Ty → List Value → Prop
  | [], [] => True
  | t :: ts, v :: vs => Fit1 t v ∧ Fit ts vs
  | _, _ => False
theorem Fit.append : ∀ {A B : List Ty} {xs ys : List Value}, Fit A xs → Fit B ys → Fit (A ++ B) (xs ++ ys)
  | [], _, [], _, _, h => h
  | _ :: _, _, _ :: _, _, h, k => ⟨h.1, Fit.append h.2 k⟩
/-- the cells of a type lie side by side -/
def layF (P : Program) (r : TypeId → Bool) : List Field → Nat → Nat → Bool
  | [], o, z => o == z
  | f :: fs, o, z => f.offset == o && r f.type && layF P r fs (o + P.cellsOf f.type) z
def layB (P : Program) : Nat → TypeId → Bool
  | 0, _ => false
  | n + 1, t => match P.underlying t with
    | some (.struct fs) => layF P (layB P n) fs.toList 0 (P.cellsOf t)
    | some (.array k e) => layB P n e && decide (k * P.cellsOf e = P.cellsOf t)
    | some .bool | some (.int _) | some .string | some (.pointer _) | some (.slice _) | some (.map _ _) => true
    | _ => false
theorem mapM_cons_some {α β : Type} {f : α → Option β} {a : α} {l : List α} {r : List β} (h : (a :: l).mapM f = some r) : ∃ b bs, r = b :: bs ∧ f a = some b ∧ l.mapM f = some bs := by
  rw [List.mapM_cons] at h
  cases hf : f a with
  | none => rw [hf] at h; cases h
  | some b =>
    rw [hf] at h
    cases hl : l.mapM f with
    | none => rw [hl] at h; cases h
    | some bs => rw [hl] at h; exact ⟨b, bs, (Option.some.inj h).symm, rfl, rfl⟩
section
variable {H : Type} {enc : TypeId × Value → H} {P : Program} {w : World} {base : Nat} {sp : Nat → Bool} {held : Bool}
theorem fit_array {E : List Ty} {z : Nat} {p : List Value → Prop} (hp : ∀ cs, cs.length = z → p cs → Fit E cs) (k : Nat) :
    ∀ (cs : List Value) (o : Nat), cs.length = o + k * z → (∀ i, i < k → p ((cs.drop (o + i * z)).take z)) → Fit (List.replicate k E).flatten (cs.drop o) := by
  induction k with
  | zero =>
    intro cs o hl _
    have : cs.drop o = [] := List.drop_eq_nil_of_le (by simp at hl; omega)
    rw [this]; exact trivial
  | succ k ih =>
    intro cs o hl h
    have hz : (k + 1) * z = z + k * z := by rw [Nat.add_mul]; omega
    have h0 := hp _ (by rw [List.length_take, List.length_drop]; rw [hl, hz]; omega) (h 0 (by omega))
    rw [Nat.zero_mul, Nat.add_zero] at h0
    have h1 := ih cs (o + z) (by rw [hl, hz]; omega) (fun i hi => by
      have := h (i + 1) (by omega)
      rw [Nat.add_mul, Nat.one_mul] at this
      rwa [show o + z + i * z = o + (i * z + z) by omega])
    have : cs.drop o = (cs.drop o).take z ++ cs.drop (o + z) := by
      rw [show cs.drop (o + z) = (cs.drop o).drop z by rw [List.drop_drop]]
      exact (List.take_append_drop _ _).symm
    rw [this, List.replicate_succ, List.flatten_cons]
    exact h0.append h1
theorem fit_fields {n m : Nat} (hrec : ∀ (t : TypeId) (cs : List Value) (x : DataW H × List MemPlace), layB P m t = true → DataW.trod enc P w base sp held n t cs = some x → cs.length = P.cellsOf t → Fit (cellTys P m t) cs) :
    ∀ (fs : List Field) (cs : List Value) (o : Nat) (r : List (DataW H × List MemPlace)), layF P (layB P m) fs o cs.length = true → o ≤ cs.length →
      (fs.mapM fun f => DataW.trod enc P w base sp held n f.type ((cs.drop f.offset).take (P.cellsOf f.type))) = some r → Fit (fs.flatMap fun f => cellTys P m f.type) (cs.drop o) := by
  intro fs
  induction fs with
  | nil =>
    intro cs o r hl _ _
    simp only [layF, beq_iff_eq] at hl
    have : cs.drop o = [] := List.drop_eq_nil_of_le (by omega)
    rw [this]; exact trivial
  | cons f fs ih =>
    intro cs o r hl ho h
    simp only [layF, Bool.and_eq_true, beq_iff_eq] at hl
    obtain ⟨⟨rfl, hf⟩, hg⟩ := hl
    obtain ⟨b, bs, _, h1, h2⟩ := mapM_cons_some h
    have hle : ∀ (l : List Field) (o : Nat), layF P (layB P m) l o cs.length = true → o ≤ cs.length := by
      intro l
      induction l with
      | nil => intro o h; simp only [layF, beq_iff_eq] at h; omega
      | cons g l ih => intro o h; simp only [layF, Bool.and_eq_true, beq_iff_eq] at h; have := ih _ h.2; omega
    have hle' := hle _ _ hg
    have h3 := hrec _ _ _ hf h1 (by rw [List.length_take, List.length_drop]; omega)
    have h4 := ih cs _ bs hg hle' h2
    have : cs.drop f.offset = (cs.drop f.offset).take (P.cellsOf f.type) ++ cs.drop (f.offset + P.cellsOf f.type) := by
      rw [show cs.drop (f.offset + P.cellsOf f.type) = (cs.drop f.offset).drop (P.cellsOf f.type) by rw [List.drop_drop]]
      exact (List.take_append_drop _ _).symm
    rw [this, List.flatMap_cons]
    exact h3.append h4
theorem fit_of_trod : ∀ (m n : Nat) (t : TypeId) (cs : List Value) (x : DataW H × List MemPlace), layB P m t = true → DataW.trod enc P w base sp held n t cs = some x → Fit (cellTys P m t) cs := by
  intro m
  induction m with
  | zero => intro n t cs x h; simp [layB] at h
  | succ m ih =>
    intro n t cs x hl h
    cases n with
    | zero => simp [DataW.trod] at h
    | succ n =>
      unfold layB at hl
      unfold cellTys
      unfold DataW.trod at h
      split at hl
      · rename_i fs hu
        simp only [hu] at h ⊢
        split at h
        · rename_i hc
          cases hm : (fs.toList.mapM fun f => DataW.trod enc P w base sp held n f.type ((cs.drop f.offset).take (P.cellsOf f.type))) with
          | none => rw [hm] at h; cases h
          | some r => exact fit_fields (m := m) (n := n) (fun t cs x h1 h2 _ => ih n t cs x h1 h2) fs.toList cs 0 r (by rw [hc]; exact hl) (by omega) hm
        · cases h
      · rename_i k e hu
        simp only [Bool.and_eq_true, decide_eq_true_eq] at hl
        simp only [hu] at h ⊢
        split at h
        · rename_i hc
          cases hm : ((List.range k).mapM fun i => DataW.trod enc P w base sp held n e ((cs.drop (i * P.cellsOf e)).take (P.cellsOf e))) with
          | none => rw [hm] at h; cases h
          | some r =>
            have key : ∀ (l : List Nat) (r : List (DataW H × List MemPlace)), (l.mapM fun i => DataW.trod enc P w base sp held n e ((cs.drop (i * P.cellsOf e)).take (P.cellsOf e))) = some r → ∀ i ∈ l, ∃ x, DataW.trod enc P w base sp held n e ((cs.drop (i * P.cellsOf e)).take (P.cellsOf e)) = some x := by
              intro l
              induction l with
              | nil => intro r _ i hi; cases hi
              | cons j l ih2 =>
                intro r h i hi
                obtain ⟨b, bs, _, h1, h2⟩ := mapM_cons_some h
                rcases List.mem_cons.1 hi with rfl | hi
                · exact ⟨b, h1⟩
                · exact ih2 bs h2 i hi
            have := fit_array (E := cellTys P m e) (z := P.cellsOf e) (p := fun c => ∃ x, DataW.trod enc P w base sp held n e c = some x) (fun c _ ⟨x, hx⟩ => ih n e c x hl.1 hx) k cs 0 (by omega) (fun i hi => by
              rw [Nat.zero_add]
              exact key _ r hm i (List.mem_range.2 hi))
            exact this
        · cases h
      all_goals first
        | (cases hl; done)
        | skip
      all_goals
        rename_i hu
        simp only [hu] at h ⊢
        split at h
        all_goals first
          | (cases h; done)
          | (rename_i e; cases e; done)
          | exact ⟨⟨_, rfl⟩, trivial⟩
          | exact ⟨⟨_, _, _, rfl, Nat.le_refl _, Nat.zero_le _⟩, trivial⟩
          | (rename_i e
             injection e with e
             injection e with e
             subst e
             split at h
             · rename_i hc
               obtain ⟨rfl, hc⟩ := hc
               exact ⟨⟨_, rfl, hc⟩, trivial⟩
             · cases h)
          | (split at h
             · rename_i hc
               exact ⟨⟨_, rfl, hc⟩, trivial⟩
             · cases h)
          | (skip
             split at h
             · rename_i hc
               exact ⟨⟨_, _, _, rfl, hc.2⟩, trivial⟩
             · cases h)
end
end Go.X
