import Derived.Test.YtamnhlkaknjcaaaU09m
set_option linter.unusedVariables false
set_option linter.unusedSimpArgs false
set_option maxRecDepth 10000
namespace Go.Proofs
open Go X RowKit Go.Sort
/-! ### lists of pairs with unlike keys -/
section
variable {α β : Type} [DecidableEq α]
theorem mem_fnd' {x : α} {v : β} : ∀ {l : List (α × β)}, (l.map (·.1)).Nodup → (x, v) ∈ l → fnd x l = some v
  | (k, u) :: l, hn, h => by
    simp only [List.map_cons, List.nodup_cons] at hn
    rw [fnd]
    rcases List.mem_cons.1 h with e | h2
    · injection e with e1 e2; subst e1; subst e2; rw [if_pos rfl]
    · by_cases hx : x = k
      · subst hx; exact absurd (List.mem_map.2 ⟨_, h2, rfl⟩) hn.1
      · rw [if_neg hx]; exact mem_fnd' hn.2 h2
theorem mdel_filter {x : α} : ∀ {l : List (α × β)}, (l.map (·.1)).Nodup → X.mdel x l = l.filter (fun y => !decide (y.1 = x))
  | [], _ => rfl
  | (k, u) :: l, hn => by
    simp only [List.map_cons, List.nodup_cons] at hn
    rw [X.mdel]
    by_cases hx : x = k
    · subst hx
      rw [if_pos rfl, List.filter_cons_of_neg (by simp)]
      symm
      refine List.filter_eq_self.2 fun y hy => ?_
      have : ¬ y.1 = x := fun e => hn.1 (e ▸ List.mem_map.2 ⟨y, hy, rfl⟩)
      simpa using this
    · rw [if_neg hx, List.filter_cons_of_pos (by simpa using Ne.symm hx), mdel_filter hn.2]
end
theorem delL_filter : ∀ (ds : List J) {l : List (J × Int)}, (l.map (·.1)).Nodup → delL ds l = l.filter (fun y => !decide (y.1 ∈ ds))
  | [], l, _ => (List.filter_eq_self.2 (by simp)).symm
  | d :: ds, l, hn => by
    have h1 : delL (d :: ds) l = delL ds (X.mdel d l) := rfl
    rw [h1, delL_filter ds (mdel_nodup hn), mdel_filter hn, List.filter_filter]
    congr 1
    funext y
    by_cases h : y.1 = d <;> simp [h]
/-! ### what is due -/
theorem due_mem {s : Wh} {now : Int} (hn : (s.l.map (·.1)).Nodup) (x : J) : x ∈ dueF s now ↔ ∃ t, (x, t) ∈ s.l ∧ t ≤ now := by
  rw [dueF, (sortBy_perm _ _).mem_iff, List.mem_map]
  constructor
  · rintro ⟨y, hy, rfl⟩
    obtain ⟨h1, h2⟩ := List.mem_filter.1 hy
    exact ⟨y.2, h1, by simpa using h2⟩
  · rintro ⟨t, h1, h2⟩
    exact ⟨(x, t), List.mem_filter.2 ⟨h1, by simpa using h2⟩, rfl⟩
theorem due_nodup {s : Wh} {now : Int} (hn : (s.l.map (·.1)).Nodup) : (dueF s now).Nodup := by
  rw [dueF, (sortBy_perm _ _).nodup_iff]
  exact (hn.sublist (List.filter_sublist.map _))
theorem due_sorted (s : Wh) (now : Int) : (dueF s now).Pairwise fun x y => atF s.l x ≤ atF s.l y := by
  refine (sortBy_sorted (cmpT s.l) (swoT s.l) _).imp fun {x y} h => ?_
  have h2 : ltOf (cmpT s.l) y x = false := by simp only [ltOf, decide_eq_false_iff_not]; omega
  rw [lt_T] at h2
  simp only [decide_eq_false_iff_not] at h2
  omega
theorem due_at {s : Wh} (hn : (s.l.map (·.1)).Nodup) {x : J} {t : Int} (h : (x, t) ∈ s.l) : atF s.l x = t := by rw [atF, mem_fnd' hn h]; rfl
theorem due_rest {s : Wh} {now : Int} (hn : (s.l.map (·.1)).Nodup) : delL (dueF s now) s.l = s.l.filter fun y => decide (now < y.2) := by
  rw [delL_filter _ hn]
  refine List.filter_congr fun y hy => ?_
  have h := due_mem (now := now) hn y.1
  by_cases hc : y.2 ≤ now
  · have : y.1 ∈ dueF s now := h.2 ⟨y.2, hy, hc⟩
    have h2 : ¬ now < y.2 := by omega
    simp [this, h2]
  · have : ¬ y.1 ∈ dueF s now := fun hm => by
      obtain ⟨t, h1, h2⟩ := h.1 hm
      have e1 := due_at hn h1
      have e2 := due_at (t := y.2) (x := y.1) hn hy
      omega
    have h2 : now < y.2 := by omega
    simp [this, h2]
/-! ### timers by number -/
def kk (j : Nat) : J := ⟨⟨((j % 256 : Nat) : Int), 0, 0, I.zero⟩, ⟨by simp only; omega, Go.Proofs.zero_in.pn, Go.Proofs.zero_in.pl, Go.Proofs.zero_in.id⟩⟩
theorem kk_kd {j : Nat} (h : j < 60) : (kk j).1.kd = j := by show ((j % 256 : Nat) : Int) = j; omega
theorem kk_inj {i j : Nat} (hi : i < 60) (hj : j < 60) (h : kk i = kk j) : i = j := by
  have := congrArg (fun x : J => x.1.kd) h
  simp only [kk_kd hi, kk_kd hj] at this
  omega
def fullN (T : List Int) (n : Nat) : List (J × Int) := (List.range n).map fun j => (kk j, T.getD j 0)
theorem full_mem {T : List Int} {n : Nat} {x : J} {t : Int} : (x, t) ∈ fullN T n ↔ ∃ j, j < n ∧ x = kk j ∧ t = T.getD j 0 := by
  simp only [fullN, List.mem_map, List.mem_range]
  constructor
  · rintro ⟨j, hj, e⟩; injection e with e1 e2; exact ⟨j, hj, e1.symm, e2.symm⟩
  · rintro ⟨j, hj, rfl, rfl⟩; exact ⟨j, hj, rfl⟩
theorem full_nodup (T : List Int) {n : Nat} (hn : n ≤ 60) : ((fullN T n).map (·.1)).Nodup := by
  simp only [fullN, List.map_map]
  refine List.Pairwise.map _ (S := fun a b => a ≠ b) ?_ (List.Pairwise.and_mem.1 List.nodup_range)
  rintro a b ⟨ha, hb, hne⟩ e
  simp only [List.mem_range] at ha hb
  exact hne (kk_inj (by omega) (by omega) e)
theorem full_succ (T : List Int) (n : Nat) : fullN T (n + 1) = fullN T n ++ [(kk n, T.getD n 0)] := by simp [fullN, List.range_succ]
theorem full_set (T : List Int) {n : Nat} (hn : n < 60) : setF ⟨100, fullN T n⟩ (kk n) (T.getD n 0) = (0, ⟨100, fullN T (n + 1)⟩) := by
  have hno : kk n ∉ (fullN T n).map (·.1) := fun h => by
    obtain ⟨⟨x, t⟩, hm, e⟩ := List.mem_map.1 h
    obtain ⟨j, hj, e2, _⟩ := full_mem.1 hm
    simp only at e
    have := kk_inj hn (by omega) (e.symm.trans e2)
    omega
  have hf : fnd (kk n) (fullN T n) = none := fnd_none.2 hno
  have hl : (fullN T n).length = n := by simp [fullN]
  rw [setF, hf, mput_out hno, full_succ]
  simp [hl]; omega
/-- those that were not met -/
def unmet (T : List Int) (M : List Bool) : List (J × Int) := (fullN T T.length).filter fun p => !(M.getD p.1.1.kd.toNat false)
theorem unmet_mem {T : List Int} (hT : T.length ≤ 60) {M : List Bool} {x : J} {t : Int} : (x, t) ∈ unmet T M ↔ ∃ j, j < T.length ∧ x = kk j ∧ t = T.getD j 0 ∧ M.getD j false = false := by
  rw [unmet, List.mem_filter, full_mem]
  constructor
  · rintro ⟨⟨j, hj, rfl, rfl⟩, h⟩
    have e : (kk j).1.kd.toNat = j := by rw [kk_kd (by omega)]; simp
    simp only [e] at h
    exact ⟨j, hj, rfl, rfl, by simpa using h⟩
  · rintro ⟨j, hj, rfl, rfl, h⟩
    have e : (kk j).1.kd.toNat = j := by rw [kk_kd (by omega)]; simp
    refine ⟨⟨j, hj, rfl, rfl⟩, ?_⟩
    simp only [e, h]; rfl
theorem unmet_nodup {T : List Int} (hT : T.length ≤ 60) (M : List Bool) : ((unmet T M).map (·.1)).Nodup := (full_nodup T hT).sublist (List.filter_sublist.map _)
theorem unmet_len {T : List Int} (hT : T.length ≤ 60) (M : List Bool) : (unmet T M).length ≤ 60 := Nat.le_trans (List.length_filter_le _ _) (by simp [fullN]; exact hT)
def setM (M : List Bool) (l : List J) : List Bool := l.foldl (fun M x => M.set x.1.kd.toNat true) M
theorem setM_len (l : List J) : ∀ M : List Bool, (setM M l).length = M.length := by
  induction l with
  | nil => intro M; rfl
  | cons x l ih => intro M; show (setM (M.set x.1.kd.toNat true) l).length = _; rw [ih, List.length_set]
theorem setM_get (l : List J) : ∀ (M : List Bool) (j : Nat), j < M.length → ((setM M l).getD j false = true ↔ (M.getD j false = true ∨ ∃ x ∈ l, x.1.kd.toNat = j)) := by
  induction l with
  | nil => intro M j hj; simp [setM]
  | cons x l ih =>
    intro M j hj
    have h1 : setM M (x :: l) = setM (M.set x.1.kd.toNat true) l := rfl
    rw [h1, ih _ _ (by rw [List.length_set]; exact hj)]
    by_cases hx : x.1.kd.toNat = j
    · have e1 : (M.set x.1.kd.toNat true).getD j false = true := by rw [hx]; simp [List.getD_eq_getElem?_getD, hj]
      exact ⟨fun _ => .inr ⟨x, by simp, hx⟩, fun _ => .inl e1⟩
    · have e1 : (M.set x.1.kd.toNat true).getD j false = M.getD j false := by simp [List.getD_eq_getElem?_getD, List.getElem?_set_ne hx]
      rw [e1]
      constructor
      · rintro (h | ⟨y, hy, e⟩)
        · exact .inl h
        · exact .inr ⟨y, by simp [hy], e⟩
      · rintro (h | ⟨y, hy, e⟩)
        · exact .inl h
        · rcases List.mem_cons.1 hy with rfl | hy
          · exact absurd e hx
          · exact .inr ⟨y, hy, e⟩
/-- behind a Due -/
theorem unmet_step {T : List Int} (hT : T.length ≤ 60) {M : List Bool} (hM : M.length = 60) (now : Int) : delL (dueF ⟨100, unmet T M⟩ now) (unmet T M) = unmet T (setM M (dueF ⟨100, unmet T M⟩ now)) := by
  have hn := unmet_nodup hT M
  rw [due_rest (s := ⟨100, unmet T M⟩) hn]
  simp only [unmet]
  rw [List.filter_filter]
  refine List.filter_congr fun p hp => ?_
  obtain ⟨x, t⟩ := p
  obtain ⟨j, hj, rfl, rfl⟩ := full_mem.1 hp
  have e : (kk j).1.kd.toNat = j := by rw [kk_kd (by omega)]; simp
  have hg := setM_get (dueF ⟨100, unmet T M⟩ now) M j (by omega)
  have hd : (∃ y ∈ dueF ⟨100, unmet T M⟩ now, y.1.kd.toNat = j) ↔ (M.getD j false = false ∧ T.getD j 0 ≤ now) := by
    constructor
    · rintro ⟨y, hy, ey⟩
      obtain ⟨t, h1, h2⟩ := (due_mem (s := ⟨100, unmet T M⟩) hn y).1 hy
      obtain ⟨i, hi, rfl, rfl, hm⟩ := (unmet_mem hT).1 h1
      have e2 : (kk i).1.kd.toNat = i := by rw [kk_kd (by omega)]; simp
      rw [e2] at ey; subst ey
      exact ⟨hm, h2⟩
    · rintro ⟨hm, h2⟩
      exact ⟨kk j, (due_mem (s := ⟨100, unmet T M⟩) hn _).2 ⟨_, (unmet_mem hT).2 ⟨j, hj, rfl, rfl, hm⟩, h2⟩, e⟩
  rw [hd] at hg
  simp only [unmet] at hg
  simp only [e]
  generalize (setM M (dueF ⟨100, List.filter (fun p => !(M.getD p.1.1.kd.toNat false)) (fullN T T.length)⟩ now)).getD j false = r at hg
  generalize T.getD j 0 = tj at hg ⊢
  cases hm : M.getD j false with
  | true =>
    rw [hm] at hg
    have : r = true := hg.2 (.inl rfl)
    rw [this]; simp
  | false =>
    rw [hm] at hg
    by_cases hc : tj ≤ now
    · have hc2 : ¬ now < tj := by omega
      have : r = true := hg.2 (.inr ⟨rfl, hc⟩)
      rw [this]; simp; omega
    · have hc2 : now < tj := by omega
      have : r = false := by
        cases r with
        | false => rfl
        | true => rcases hg.1 rfl with h | ⟨_, h⟩
                  · cases h
                  · exact absurd h hc
      rw [this]; simp; omega
end Go.Proofs
