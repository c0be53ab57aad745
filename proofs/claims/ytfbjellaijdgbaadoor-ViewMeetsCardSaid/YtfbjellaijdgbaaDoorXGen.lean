import Derived.Test.YtfbjellaijdgbaaDoorXSpec
set_option linter.unusedVariables false
set_option linter.unusedSimpArgs false
/- The engine, part 3: operations that read, write, make memory, or call. -/
namespace Go.X
open Go

inductive LoopH where
  | unroll (n : Nat)
  | inv (slots : List (Nat × Ty)) (locs : List (Nat × List Ty)) (wr : Bool)
structure Hints where
  isLoc : List Nat
  sym : List Nat
  loops : List (Nat × LoopH)
  joins : List (Nat × (List (Nat × Ty) × List (Nat × List Ty)))
  stored : List (Nat × List Nat) := []
  ents : List (Nat × List Nat) := []
  rjoins : List (Nat × (List (Nat × Ty) × List (Nat × List Ty) × List (Nat × TypeId))) := []
def has (l : List Nat) (d : Option Nat) : Bool := match d with
  | some d => l.contains d
  | none => false

/-! ### the world is met -/
def sync (B : Nat) (s : St) (k : World → Option (List Nat) → Prop) : Prop :=
  match s.dirty with
  | true => match s.loc with
    | [] => ∀ w, Hid (Lof s.L) s.u w → k w none
    | _ :: _ => ∀ w L', Hid (Lof s.L) s.u w → NewL B (Lof s.L) s.u w L' → k w (some L')
  | false => match s.loc with
    | [] => k s.u none
    | _ :: _ => k s.u s.L
def keptL (L : Option (List Nat)) (w w' : World) (p : Prop) : Prop :=
  match L with
  | none => w.heap.size ≤ w'.heap.size ∧ p
  | some L => Kept L w w' ∧ p
def guardL (L : Option (List Nat)) (b : Nat) (p : Prop) : Prop :=
  match L with
  | none => p
  | some L => b ∉ L ∧ p
theorem keptL_elim {L w w' p} (h : keptL L w w' p) : Kept (Lof L) w w' ∧ p := by
  cases L with
  | none => exact ⟨⟨h.1, fun b hb => by cases hb⟩, h.2⟩
  | some l => exact h
theorem guardL_elim {L b p} (h : guardL L b p) : b ∉ Lof L ∧ p := by
  cases L with
  | none => exact ⟨by simp [Lof], h⟩
  | some l => exact h

section
variable {P : Program} {bs : Nat → Nat} {B : Nat} {s : St} {a : Act} {w : World} {g : Option (Nat × Bool)} {o : Oper}

theorem sync_sound {k : World → Option (List Nat) → Prop} (h : sync B s k) (hi : Inv bs B s a w) : ∃ L', k w L' ∧ (∀ i b, look s.loc i = some b → bs i ∈ Lof L') ∧ (∀ b, b ∈ Lof L' → b < w.heap.size ∧ B ≤ b) := by
  unfold sync at h
  cases hd : s.dirty with
  | true =>
    rw [hd] at h
    simp only at h
    split at h
    · rename_i hl
      exact ⟨none, h w hi.hid, fun i b hb => (by rw [hl] at hb; cases hb), fun b hb => (by cases hb)⟩
    · rename_i x r hl
      have hnew : NewL B (Lof s.L) s.u w ((s.loc.filter fun p => (look s.loc p.1).isSome).map fun p => bs p.1) := by
        intro b hb
        simp only [List.mem_map, List.mem_filter] at hb
        obtain ⟨p, ⟨_, hp⟩, rfl⟩ := hb
        cases hq : look s.loc p.1 with
        | none => rw [hq] at hp; cases hp
        | some bk =>
          obtain ⟨h1, h2, h3⟩ := hi.blk p.1 bk hq
          exact ⟨(Array.getElem?_eq_some_iff.1 h1).1, h2, h3⟩
      refine ⟨_, h w _ hi.hid hnew, ?_, fun b hb => ⟨(hnew b hb).1, (hnew b hb).2.1⟩⟩
      · intro i b hb
        have hm : ∀ (l : List (Nat × Blk)), look l i = some b → ∃ c, (i, c) ∈ l := by
          intro l
          induction l with
          | nil => intro h; cases h
          | cons y l ih =>
            intro h
            obtain ⟨j, c⟩ := y
            simp only [look] at h
            split at h
            · rename_i hj; subst hj; exact ⟨c, by simp⟩
            · obtain ⟨c', hc⟩ := ih h; exact ⟨c', by simp [hc]⟩
        obtain ⟨c, hc⟩ := hm _ hb
        simp only [Lof, List.mem_map, List.mem_filter]
        exact ⟨(i, c), ⟨hc, by simp [hb]⟩, rfl⟩
  | false =>
    rw [hd] at h
    simp only at h
    have hw := hi.cleanw hd
    split at h
    · rename_i hl
      exact ⟨none, (by rw [hw]; exact h), fun i b hb => (by rw [hl] at hb; cases hb), fun b hb => (by cases hb)⟩
    · exact ⟨s.L, (by rw [hw]; exact h), hi.cleanl hd, fun b hb => (by rw [hw]; exact hi.llt b hb)⟩

theorem Inv.event (hi : Inv bs B s a w) {L' : Option (List Nat)} (hL : ∀ i b, look s.loc i = some b → bs i ∈ Lof L') (hlt : ∀ b, b ∈ Lof L' → b < w.heap.size ∧ B ≤ b) {w2 : World} (hk : Kept (Lof L') w w2) :
    Inv bs B { s with u := w2, L := L', dirty := false } a w2 :=
  ⟨hi.defers, hi.size, hi.slots, fun i b hb => by
      obtain ⟨h1, h2, _⟩ := hi.blk i b hb
      exact ⟨(hk.block _ (hL i b hb)).trans h1, h2, .inl (hL i b hb)⟩,
    hi.inj, Hid.refl _ _, fun _ => rfl, fun _ => hL, Nat.le_trans hi.base (Nat.le_trans hi.hid.size hk.size), fun b hb => ⟨Nat.lt_of_lt_of_le (hlt b hb).1 hk.size, (hlt b hb).2⟩⟩

theorem wp_value {K : Act → World → Prop} {Q : Exit → Act → World → Prop} {v : Value} {w' : World} (h : (execOp a.eval o).run P w = .ok (.value v) w') (hk : K (a.put o.dst v) w') : o.wp P a w K Q := by
  unfold Oper.wp; rw [h]; exact hk
theorem wp_skip_ {K : Act → World → Prop} {Q : Exit → Act → World → Prop} {w' : World} (h : (execOp a.eval o).run P w = .ok .skip w') (hk : K (a.put o.dst undef) w') : o.wp P a w K Q := by
  unfold Oper.wp; rw [h]; exact hk
theorem wp_enter {K : Act → World → Prop} {Q : Exit → Act → World → Prop} {f : FuncId} {args : Array Value} {w' : World} (h : (execOp a.eval o).run P w = .ok (.enter f args) w')
    (hk : Calls P f args w' fun e w'' => ∃ v, e = .returned v ∧ K (a.put o.dst v) w'') : o.wp P a w K Q := by
  unfold Oper.wp; rw [h]
  exact hk.mono fun e w'' ⟨v, he, hv⟩ => by subst he; exact hv

/-- what an operation leaves -/
def Res (bs0 : Nat → Nat) (dst : Option Nat) (B : Nat) (next : St → Prop) (a : Act) (w : World) : Prop := ∃ bs s, next s ∧ Inv bs B s a w ∧ ∀ i, dst ≠ some i → bs i = bs0 i

/-! ### a new local -/
def allocL (s : St) (i : Nat) (cells : List Value) (t : TypeId) (dst : Option Nat) : St :=
  { s with fr := sput (s.fr.map (killL i)) dst (.b (.loc i 0)), loc := upd s.loc i ⟨cells, t⟩, dirty := true }

theorem RV_kill {bs : Nat → Nat} {tmps : Array Value} {i n : Nat} {x : SV} {y : Value} (h : RV bs tmps x y) : RV (fun j => if j = i then n else bs j) tmps (killL i x) y := by
  cases x with
  | junk => trivial
  | b x =>
    cases x with
    | v x => simpa [killL, B0.kill, RV, B0.real] using h
    | loc j off =>
      simp only [killL, B0.kill]
      by_cases hj : j = i
      · simp [hj, RV]
      · have : (j == i) = false := by simpa using hj
        simp only [this, Bool.false_eq_true, if_false, RV, B0.real, hj] at h ⊢
        exact h
  | gd s want x =>
    cases x with
    | v x => simpa [killL, B0.kill, RV, B0.real] using h
    | loc j off =>
      simp only [killL, B0.kill]
      by_cases hj : j = i
      · simp [hj, RV]
      · have : (j == i) = false := by simpa using hj
        simp only [this, Bool.false_eq_true, if_false, RV, B0.real, hj] at h ⊢
        exact h

theorem Inv.allocL_ (hi : Inv bs B s a w) (i : Nat) (cells : List Value) (t : TypeId) (dst : Option Nat) :
    Inv (fun j => if j = i then w.heap.size else bs j) B (allocL s i cells t dst) (a.put dst (.pointer (some ⟨w.heap.size, 0, none⟩))) (w.alloc (.cells cells.toArray t)) := by
  have hB : B ≤ w.heap.size := Nat.le_trans hi.base hi.hid.size
  have h1 : Inv (fun j => if j = i then w.heap.size else bs j) B { s with fr := s.fr.map (killL i), loc := upd s.loc i ⟨cells, t⟩, dirty := true } a (w.alloc (.cells cells.toArray t)) := by
    refine ⟨hi.defers, by simpa using hi.size, ?_, ?_, ?_, ?_, fun h => (by cases h), fun h => (by cases h), hi.base, hi.llt⟩
    · intro j x hx
      simp only [List.getElem?_map] at hx
      cases hz : s.fr[j]? with
      | none => rw [hz] at hx; cases hx
      | some z => rw [hz] at hx; injection hx with hx; subst hx; exact RV_kill (hi.slots j z hz)
    · intro j b hb
      rw [look_upd] at hb
      by_cases hj : i = j
      · subst hj
        rw [if_pos rfl] at hb
        injection hb with hb
        subst hb
        simp only [if_true]
        exact ⟨heap_alloc_new w _, hB, .inr hi.hid.size⟩
      · rw [if_neg hj] at hb
        rw [if_neg (fun e => hj e.symm)]
        obtain ⟨h1, h2, h3⟩ := hi.blk j b hb
        exact ⟨(heap_alloc_old w _ (Array.getElem?_eq_some_iff.1 h1).1).trans h1, h2, h3⟩
    · intro j k b c hb hc hne
      rw [look_upd] at hb hc
      have lt : ∀ j b, look s.loc j = some b → bs j < w.heap.size := fun j b hb => (Array.getElem?_eq_some_iff.1 (hi.blk j b hb).1).1
      by_cases hj : i = j
      · subst hj
        rw [if_neg hne] at hc
        rw [if_pos rfl, if_neg (fun e => hne e.symm)]
        have := lt k c hc
        omega
      · rw [if_neg hj] at hb
        rw [if_neg (fun e => hj e.symm)]
        by_cases hk : i = k
        · subst hk
          rw [if_pos rfl]
          have := lt j b hb
          omega
        · rw [if_neg hk] at hc
          rw [if_neg (fun e => hk e.symm)]
          exact hi.inj j k b c hb hc hne
    · exact ⟨hi.hid.os, hi.hid.tape, hi.hid.output, by have := hi.hid.size; rw [World.size_alloc]; exact Nat.le_succ_of_le this, by simpa using hi.hid.drawn, fun b hb hn => (heap_alloc_old w _ (Nat.lt_of_lt_of_le hb hi.hid.size)).trans (hi.hid.block b hb hn)⟩
  exact h1.putB dst (.loc i 0) _ (by simp [B0.real])

/-! ### a store into a local -/
theorem run_storeAt_row {t : TypeId} {b off : Nat} {v : Value} {cur : List Value} {ty : TypeId} (hh : w.heap[b]? = some (.cells cur.toArray ty (0, 0))) (hz : szOf P t = some v.cells.size)
    (hfit : off + v.cells.size ≤ cur.length) (h1 : v.cells.toList.all oneC = true) :
    (Instr.storeAt t (.pointer (some ⟨b, off, none⟩)) v).run P w = .ok () (w.setRow b (splice cur off v.cells.toList).toArray) := by
  have hst := run_storeCells_at P b off ty v.cells.toList 0 cur.toArray w hh (by simpa using hfit) (fun x hx => by rw [← oneC_eq]; exact (List.all_eq_true.1 h1) x hx)
  cases hq : P.info? t with
  | none => simp [szOf, hq] at hz
  | some i =>
    have hs : i.size = v.cells.size := by simpa [szOf, hq] using hz
    simp only [Nat.add_zero] at hst
    simp [Instr.storeAt, Instr.sureAddr, storeVar, sizeOf, typeInfo, hq, hs, hst, splice]

theorem Inv.storeL (hi : Inv bs B s a w) {i : Nat} {bk : Blk} (hb : look s.loc i = some bk) (cells : List Value) :
    Inv bs B { s with loc := upd s.loc i ⟨cells, bk.ty⟩, dirty := true } a (w.setRow (bs i) cells.toArray) := by
  obtain ⟨h1, h2, h3⟩ := hi.blk i bk hb
  refine ⟨hi.defers, hi.size, hi.slots, ?_, ?_, ?_, fun h => (by cases h), fun h => (by cases h), hi.base, hi.llt⟩
  · intro j b hj
    rw [look_upd] at hj
    by_cases hij : i = j
    · subst hij
      rw [if_pos rfl] at hj
      injection hj with hj
      subst hj
      exact ⟨setRow_heap w _ _ _ _ _ h1, h2, h3⟩
    · rw [if_neg hij] at hj
      obtain ⟨g1, g2, g3⟩ := hi.blk j b hj
      exact ⟨(setRow_other w _ _ _ (hi.inj j i b bk hj hb (fun e => hij e.symm))).trans g1, g2, g3⟩
  · intro j k b c hj hk hne
    rw [look_upd] at hj hk
    have : ∀ {j b}, (if i = j then some (⟨cells, bk.ty⟩ : Blk) else look s.loc j) = some b → ∃ b', look s.loc j = some b' := by
      intro j b h
      by_cases hij : i = j
      · subst hij; exact ⟨bk, hb⟩
      · rw [if_neg hij] at h; exact ⟨b, h⟩
    obtain ⟨b', hb'⟩ := this hj
    obtain ⟨c', hc'⟩ := this hk
    exact hi.inj j k b' c' hb' hc' hne
  · refine ⟨hi.hid.os, hi.hid.tape, hi.hid.output, by have := hi.hid.size; simpa [World.setRow] using this, by simpa using hi.hid.drawn, fun b hb' hn => ?_⟩
    have hne : b ≠ bs i := by
      rintro rfl
      rcases h3 with h3 | h3
      · exact hn h3
      · exact absurd hb' (Nat.not_lt.2 h3)
    exact (setRow_other w _ _ _ hne).trans (hi.hid.block b hb' hn)
end
end Go.X
