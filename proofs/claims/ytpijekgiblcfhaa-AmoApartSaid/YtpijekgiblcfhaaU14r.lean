import Derived.Test.YtpijekgiblcfhaaU14p
set_option linter.unusedVariables false
set_option linter.unusedSimpArgs false
set_option maxRecDepth 10000
namespace Go.Proofs
open Go X RowKit
theorem nodup_of_keys {α β : Type} {l : List (α × β)} (h : (l.map (·.1)).Nodup) : l.Nodup := List.Pairwise.of_map (·.1) (fun a b h e => h (by rw [e])) h
section
variable {α β : Type} [DecidableEq α]
theorem mem_fnd' {x : α} {v : β} : ∀ {l : List (α × β)}, (l.map (·.1)).Nodup → (x, v) ∈ l → fnd x l = some v
  | (k, u) :: l, hn, h => by
    simp only [List.map_cons, List.nodup_cons] at hn
    rw [fnd]
    rcases List.mem_cons.1 h with e | h2
    · injection e with e1 e2; subst e1; subst e2; rw [if_pos rfl]
    · by_cases hx : x = k
      · subst hx; exact absurd (List.mem_map.2 ⟨_, h2, rfl⟩) hn.1
      · rw [if_neg hx]; exact mem_fnd' hn.2 h2
theorem fnd_perm {l l' : List (α × β)} (h : l.Perm l') (hn : (l.map (·.1)).Nodup) (x : α) : fnd x l = fnd x l' := by
  have hn' : (l'.map (·.1)).Nodup := (h.map _).nodup_iff.1 hn
  cases hf : fnd x l with
  | some v => exact (mem_fnd' hn' (h.mem_iff.1 (fnd_mem hf))).symm
  | none =>
    cases hf' : fnd x l' with
    | none => rfl
    | some v => rw [mem_fnd' hn (h.mem_iff.2 (fnd_mem hf'))] at hf; cases hf
theorem mdel_filter {x : α} : ∀ {l : List (α × β)}, (l.map (·.1)).Nodup → X.mdel x l = l.filter (fun y => !decide (y.1 = x))
  | [], _ => rfl
  | (k, u) :: l, hn => by
    simp only [List.map_cons, List.nodup_cons] at hn
    rw [X.mdel]
    by_cases hx : x = k
    · subst hx
      rw [if_pos rfl, List.filter_cons_of_neg (by simp)]
      symm
      refine List.filter_eq_self.2 fun y hy => ?_
      have : ¬ y.1 = x := fun e => hn.1 (e ▸ List.mem_map.2 ⟨y, hy, rfl⟩)
      simpa using this
    · rw [if_neg hx, List.filter_cons_of_pos (by simpa using Ne.symm hx), mdel_filter hn.2]
theorem mput_perm {x : α} {v : β} : ∀ {l : List (α × β)}, (X.mput x v l).Perm ((x, v) :: X.mdel x l)
  | [] => .refl _
  | (k, u) :: l => by
    rw [X.mput, X.mdel]
    by_cases hx : x = k
    · subst hx; rw [if_pos rfl, if_pos rfl]
    · rw [if_neg hx, if_neg hx]
      exact (mput_perm.cons _).trans (.swap ..)
theorem mdel_perm {x : α} {v : β} : ∀ {l : List (α × β)}, (x, v) ∈ l → (l.map (·.1)).Nodup → l.Perm ((x, v) :: X.mdel x l)
  | (k, u) :: l, h, hn => by
    simp only [List.map_cons, List.nodup_cons] at hn
    rw [X.mdel]
    rcases List.mem_cons.1 h with e | h2
    · injection e with e1 e2; subst e1; subst e2; rw [if_pos rfl]
    · by_cases hx : x = k
      · subst hx; exact absurd (List.mem_map.2 ⟨_, h2, rfl⟩) hn.1
      · rw [if_neg hx]
        exact ((mdel_perm h2 hn.2).cons _).trans (.swap ..)
theorem sub_perm [DecidableEq β] : ∀ {l l' : List (α × β)}, l.Nodup → (∀ x ∈ l, x ∈ l') → l.length = l'.length → l.Perm l'
  | [], l', _, _, h => by
    have : l' = [] := List.eq_nil_of_length_eq_zero h.symm
    subst this; exact .refl _
  | a :: l, l', hn, hs, h => by
    have hn' := List.nodup_cons.1 hn
    have ha := hs a List.mem_cons_self
    have h1 : l.Perm (l'.erase a) := sub_perm hn'.2 (fun x hx => (List.mem_erase_of_ne (fun (e : x = a) => hn'.1 (e ▸ hx))).2 (hs x (List.mem_cons_of_mem _ hx))) (by
      have := List.length_erase_of_mem ha
      simp only [List.length_cons] at h; omega)
    exact (h1.cons a).trans (List.perm_cons_erase ha).symm
theorem eqMap_perm [DecidableEq β] {l l' : List (α × β)} (hn : (l.map (·.1)).Nodup) (hn' : (l'.map (·.1)).Nodup) : eqMap l l' = true ↔ l.Perm l' := by
  rw [eqMap, decide_eq_true_eq]
  constructor
  · rintro ⟨h1, h2⟩
    exact sub_perm (nodup_of_keys hn) (fun x hx => fnd_mem (h2 x hx)) h1
  · intro h
    exact ⟨h.length_eq, fun x hx => mem_fnd' hn' (h.mem_iff.1 hx)⟩
end
theorem fK_lt {d : I} : ∀ (l : List Rw) (i : Nat) (hi : i < l.length), i < fK l d → l[i].id.num < d.num
  | x :: l, 0, _, h => by
    unfold fK at h
    split at h
    · assumption
    · omega
  | x :: l, i + 1, hi, h => by
    unfold fK at h
    split at h
    · exact fK_lt l i (by simpa using hi) (by omega)
    · omega
theorem fK_ge {d : I} : ∀ (l : List Rw) (h : fK l d < l.length), ¬ l[fK l d].id.num < d.num
  | x :: l, h => by
    by_cases hx : x.id.num < d.num
    · have e : fK (x :: l) d = fK l d + 1 := by rw [fK, if_pos hx]
      have := fK_ge l (by rw [e] at h; simpa using h)
      simp only [e, List.getElem_cons_succ]; exact this
    · have e : fK (x :: l) d = 0 := by rw [fK, if_neg hx]
      simp only [e, List.getElem_cons_zero]; exact hx
def kv (x : Rw) : I × Rw := (x.id, x)
structure Rel (t : Tb) (r : Rt) : Prop where
  win : t.win = r.win
  R : t.R.Perm (r.L.map kv)
  nd : (t.R.map (·.1)).Nodup
  F : t.Fl.Perm r.F
  nf : (t.Fl.map (·.1)).Nodup
  srt : r.L.Pairwise (fun x y => x.id.num < y.id.num)
  fpos : ∀ x ∈ r.F, 0 < x.2 ∧ x.2 ≤ 1048576
  idin : ∀ x ∈ r.L, x.id.In
section
variable {t u : Tb} {r s : Rt}
theorem Rel.floor (h : Rel t r) (p : Int × Int) : floorF t.Fl p = floorF r.F p := by rw [floorF, floorF, fnd_perm h.F h.nf]
theorem Rel.old (h : Rel t r) (d : I) : oldF t.Fl d = oldF r.F d := by rw [oldF, oldF, h.floor]
theorem Rel.find (h : Rel t r) {d : I} : fnd d t.R = rfnd r.L d := by
  cases hf : rfnd r.L d with
  | some x =>
    obtain ⟨hk, e1, e2⟩ := rfnd_some hf
    refine mem_fnd' h.nd (h.R.mem_iff.2 (List.mem_map.2 ⟨x, ?_, by rw [kv, e2]⟩))
    rw [← e1]; exact List.getElem_mem hk
  | none =>
    cases hn : fnd d t.R with
    | none => rfl
    | some y =>
      obtain ⟨x, hx, e⟩ := List.mem_map.1 (h.R.mem_iff.1 (fnd_mem hn))
      obtain ⟨j, hj, rfl⟩ := List.mem_iff_getElem.1 hx
      have e1 : r.L[j].id = d := by rw [kv] at e; injection e
      have hk : fK r.L d = j := fK_eq _ _ (by omega) (fun i hi hij => by
        have := List.pairwise_iff_getElem.1 h.srt i j hi hj hij
        rw [e1] at this; exact this) (fun _ => by rw [e1]; omega)
      rw [rfnd, hk, List.getElem?_eq_getElem hj] at hf
      simp only [e1, if_true] at hf
      cases hf
theorem Rel.state (h : Rel t r) {d : I} (hd : d.In) : stateF t d = stateR r d := by
  rw [stateF, stateR, h.find]
  cases hf : rfnd r.L d with
  | some x => rfl
  | none =>
    simp only
    rw [h.old, h.floor, h.win]
    by_cases ho : oldF r.F d = true
    · rw [if_pos ho, if_pos ho]
    · rw [if_neg ho, if_neg ho]
      by_cases h0 : d.d = 0
      · have hs := hd.s
        have hfl : 0 ≤ floorF r.F (d.n, d.l) := by
          rw [floorF]
          cases hq : fnd (d.n, d.l) r.F with
          | none => simp
          | some v => have := (h.fpos _ (fnd_mem hq)).1; simp only [Option.getD_some]; simp only at this; omega
        have hgt : d.s > floorF r.F (d.n, d.l) := by
          have : oldF r.F d = false := by simpa using ho
          rw [oldF, h0] at this
          simp only [beq_self_eq_true, Bool.true_and, decide_eq_false_iff_not] at this
          omega
        rw [w_u32 (n := d.s - floorF r.F (d.n, d.l)) (by omega) (by omega)]
      · have : (d.d == 0) = false := by simpa using h0
        rw [this, Bool.false_and, Bool.false_and]
end
end Go.Proofs
namespace Go.Proofs
open Go X RowKit
def playR (r : Rt) (a : Ac) : Rt :=
  if a.kd = 0 ∨ a.kd = 1 ∨ a.kd = 2 then (beginR r a.d).2
  else if a.kd = 3 ∨ a.kd = 4 then (endR r a.d a.c a.v).2
  else if a.kd = 5 then raiseR r (a.d.n, a.d.l) a.nn
  else r
theorem kv_eq : (fun x : Rw => x.id) = (fun y : I × Rw => y.1) ∘ kv := rfl
section
variable {t u : Tb} {r s : Rt}
theorem Rel.begin (h : Rel t r) {d : I} (hd : d.In) : (beginF t d).1 = (beginR r d).1 ∧ Rel (beginF t d).2 (beginR r d).2 ∧ (beginR r d).2.L.length ≤ r.L.length + 1 ∧ (beginR r d).2.F = r.F := by
  rw [beginF, beginR, h.state hd]
  by_cases hr : d.right = true
  rotate_left
  · rw [if_neg hr, if_neg hr]; exact ⟨rfl, h, by simp, rfl⟩
  rw [if_pos hr, if_pos hr]
  have hst : stateR r d = 0 ∨ stateR r d = 1 ∨ stateR r d = 2 ∨ stateR r d = 3 ∨ stateR r d = 4 := by
    unfold stateR; split
    · split <;> simp
    · split <;> (try split) <;> simp
  rcases hst with h0 | h0 | h0 | h0 | h0
  · rw [if_neg (by omega), if_neg (by omega), if_pos h0, if_neg (by omega), if_neg (by omega), if_neg (by omega)]
    have h0' := h.state hd
    rw [h0] at h0'
    obtain ⟨hf, ho⟩ := state_zero h0'
    have hk := hf
    rw [h.find] at hk
    have hout := fnd_none.1 hf
    have hkl := fK_le r.L d
    have hne : ∀ x ∈ r.L, x.id ≠ d := fun x hx e => hout (by
      have := h.R.mem_iff.2 (List.mem_map.2 ⟨x, hx, rfl⟩)
      rw [kv, e] at this
      exact List.mem_map.2 ⟨_, this, rfl⟩)
    have hlt : ∀ x ∈ r.L.take (fK r.L d), x.id.num < d.num := fun x hx => by
      obtain ⟨i, hi, rfl⟩ := List.mem_iff_getElem.1 hx
      rw [List.length_take] at hi
      rw [List.getElem_take]
      exact fK_lt r.L i (by omega) (by omega)
    have hgt : ∀ x ∈ r.L.drop (fK r.L d), d.num < x.id.num := fun x hx => by
      obtain ⟨i, hi, rfl⟩ := List.mem_iff_getElem.1 hx
      rw [List.length_drop] at hi
      rw [List.getElem_drop]
      have hkk : fK r.L d < r.L.length := by omega
      have h1 := fK_ge r.L hkk
      have h2 : r.L[fK r.L d].id.num ≠ d.num := fun e => hne _ (List.getElem_mem hkk) (num_inj (h.idin _ (List.getElem_mem hkk)) hd e)
      by_cases hi0 : i = 0
      · subst hi0; simp only [Nat.add_zero]; omega
      · have := List.pairwise_iff_getElem.1 h.srt (fK r.L d) (fK r.L d + i) hkk (by omega) (by omega)
        omega
    have hsp : (r.L.take (fK r.L d) ++ r.L.drop (fK r.L d)).Pairwise (fun x y => x.id.num < y.id.num) := by rw [List.take_append_drop]; exact h.srt
    have hsp' := List.pairwise_append.1 hsp
    refine ⟨rfl, ⟨h.win, ?_, mput_nodup h.nd, h.F, h.nf, ?_, h.fpos, ?_⟩, ?_, rfl⟩
    · simp only [insR, List.map_append]
      rw [mput_out hout]
      have e : r.L.map kv = (r.L.take (fK r.L d)).map kv ++ (r.L.drop (fK r.L d)).map kv := by rw [← List.map_append, List.take_append_drop]
      have h1 := h.R
      rw [e] at h1
      refine (h1.append_right _).trans ?_
      rw [List.append_assoc, List.append_assoc]
      exact List.Perm.append_left _ List.perm_append_comm
    · simp only [insR]
      refine List.pairwise_append.2 ⟨List.pairwise_append.2 ⟨hsp'.1, by simp, fun x hx y hy => ?_⟩, hsp'.2.1, fun x hx y hy => ?_⟩
      · simp only [List.mem_singleton] at hy; subst hy; exact hlt x hx
      · rcases List.mem_append.1 hx with hx | hx
        · exact hsp'.2.2 x hx y hy
        · simp only [List.mem_singleton] at hx; subst hx; exact hgt y hy
    · intro x hx
      simp only [insR] at hx
      rcases List.mem_append.1 hx with hx | hx
      · rcases List.mem_append.1 hx with hx | hx
        · exact h.idin x (List.mem_of_mem_take hx)
        · simp only [List.mem_singleton] at hx; subst hx; exact hd
      · exact h.idin x (List.mem_of_mem_drop hx)
    · simp only [insR, List.length_append, List.length_take, List.length_drop, List.length_singleton]; omega
  · rw [if_neg (by omega), if_neg (by omega), if_neg (by omega), if_pos (by omega)]; exact ⟨rfl, h, by simp, rfl⟩
  · rw [if_neg (by omega), if_neg (by omega), if_neg (by omega), if_pos (by omega)]; exact ⟨rfl, h, by simp, rfl⟩
  · rw [if_pos h0, if_neg (by omega), if_pos h0]; exact ⟨rfl, h, by simp, rfl⟩
  · rw [if_neg (by omega), if_pos h0, if_neg (by omega), if_neg (by omega), if_pos h0]; exact ⟨rfl, h, by simp, rfl⟩
theorem cut_perm {l : List Rw} {k : Nat} (h : k < l.length) : l.Perm (l[k] :: (l.take k ++ l.drop (k + 1))) := by
  conv => lhs; rw [← List.take_append_drop k l, List.drop_eq_getElem_cons h]
  exact List.perm_middle
theorem set_perm {l : List Rw} {k : Nat} (h : k < l.length) (y : Rw) : (l.set k y).Perm (y :: (l.take k ++ l.drop (k + 1))) := by
  rw [List.set_eq_take_append_cons_drop, if_pos h]
  exact List.perm_middle
theorem Rel.end (h : Rel t r) {d : I} (c : Int) (v : ByteArray) : (endF t d c v).1 = (endR r d c v).1 ∧ Rel (endF t d c v).2 (endR r d c v).2 ∧ (endR r d c v).2.L.length ≤ r.L.length + 1 ∧ (endR r d c v).2.F = r.F := by
  have hst : ∀ x, rfnd r.L d = some x → (stateF t d = if x.ended then 2 else 1) := fun x hx => by
    rw [stateF, h.find, hx]
  rw [endF, endR]
  cases hf : rfnd r.L d with
  | none =>
    have : ¬ stateF t d = 1 := by
      rw [stateF, h.find, hf]; simp only
      split
      · decide
      · split <;> decide
    rw [if_neg this]; exact ⟨rfl, h, by simp, rfl⟩
  | some x =>
    have hs := hst x hf
    simp only
    cases he : x.ended with
    | true =>
      rw [he] at hs
      rw [if_neg (by rw [hs]; decide)]; exact ⟨rfl, h, by simp, rfl⟩
    | false =>
      rw [he] at hs
      rw [if_pos (by rw [hs]; decide), h.old, if_neg (show ¬ (false = true) by decide)]
      obtain ⟨hk, e1, e2⟩ := rfnd_some hf
      have hmem : (d, x) ∈ t.R := fnd_mem (by rw [h.find, hf])
      have hcp := cut_perm hk
      rw [e1] at hcp
      have hp1 : (X.mdel d t.R).Perm ((r.L.take (fK r.L d) ++ r.L.drop (fK r.L d + 1)).map kv) := by
        have h1 := (mdel_perm hmem h.nd).symm.trans (h.R.trans (hcp.map kv))
        rw [List.map_cons, kv, e2] at h1
        exact h1.cons_inv
      have hid : ∀ x ∈ r.L.take (fK r.L d) ++ r.L.drop (fK r.L d + 1), x.id.In := fun x hx => by
        rcases List.mem_append.1 hx with hx | hx
        · exact h.idin x (List.mem_of_mem_take hx)
        · exact h.idin x (List.mem_of_mem_drop hx)
      cases ho : oldF r.F d with
      | true =>
        rw [if_pos rfl, if_pos rfl]
        refine ⟨rfl, ⟨h.win, hp1, mdel_nodup h.nd, h.F, h.nf, ?_, h.fpos, hid⟩, ?_, rfl⟩
        · refine h.srt.sublist ?_
          rw [← List.eraseIdx_eq_take_drop_succ]
          exact List.eraseIdx_sublist ..
        · simp only [List.length_append, List.length_take, List.length_drop]; omega
      | false =>
        rw [if_neg (by decide), if_neg (by decide)]
        refine ⟨rfl, ⟨h.win, ?_, mput_nodup h.nd, h.F, h.nf, ?_, h.fpos, ?_⟩, ?_, rfl⟩
        · refine mput_perm.trans ?_
          have h2 := (set_perm hk (x.told c v)).map kv
          rw [List.map_cons] at h2
          have e3 : kv (x.told c v) = (d, ⟨d, true, c, v⟩) := by simp only [kv, Rw.told, e2]
          rw [e3] at h2
          exact (hp1.cons _).trans h2.symm
        · rw [List.pairwise_iff_getElem]
          intro i j hi hj hij
          rw [List.length_set] at hi hj
          have h1 := List.pairwise_iff_getElem.1 h.srt i j hi hj hij
          have hn : ∀ (m : Nat) (hm : m < r.L.length), ((r.L.set (fK r.L d) (x.told c v))[m]'(by rw [List.length_set]; exact hm)).id.num = r.L[m].id.num := fun m hm => by
            rw [List.getElem_set]
            split
            · rename_i hkm; subst hkm; rw [e1]; rfl
            · rfl
          rw [hn i hi, hn j hj]; exact h1
        · intro y hy
          rcases List.mem_cons.1 ((set_perm hk _).mem_iff.1 hy) with rfl | hy
          · have := h.idin _ (List.getElem_mem hk)
            rw [e1] at this; exact this
          · exact hid y hy
        · simp
theorem Rel.raise (h : Rel t r) (p : Int × Int) (n : Int) : Rel (raiseF t p n) (raiseR r p n) ∧ (raiseR r p n).L.length ≤ r.L.length + 1 ∧ (raiseR r p n).F.length ≤ r.F.length + 1 := by
  rw [raiseF, raiseR, h.floor]
  split
  rotate_left
  · exact ⟨h, by omega, by omega⟩
  rename_i hc
  simp only [Bool.and_eq_true, decide_eq_true_eq] at hc
  have hfl : 0 ≤ floorF r.F p := by
    rw [floorF]
    cases hq : fnd p r.F with
    | none => simp
    | some v => have := (h.fpos _ (fnd_mem hq)).1; simp only [Option.getD_some]; simp only at this; omega
  have hF : (X.mput p n t.Fl).Perm (putR r.F p n) := by
    refine mput_perm.trans ?_
    rw [mdel_filter h.nf, putR]
    refine List.Perm.cons _ ?_
    have := h.F.filter (fun x => !(x.1 == p))
    refine List.Perm.trans (.of_eq ?_) this
    refine List.filter_congr fun x _ => ?_
    by_cases hx : x.1 = p <;> simp [hx]
  have hnf := mput_nodup (x := p) (v := n) h.nf
  have hpast : ∀ d y, pastF (X.mput p n t.Fl) p d y = pastF (putR r.F p n) p d y := fun d y => by
    rw [pastF, pastF, oldF, oldF, floorF, floorF, fnd_perm hF hnf]
  refine ⟨⟨h.win, ?_, ?_, hF, hnf, ?_, ?_, ?_⟩, ?_, putR_len _ _ _⟩
  · simp only [hpast]
    have h1 := h.R.filter (fun x => !pastF (putR r.F p n) p x.1 x.2)
    rw [List.filter_map] at h1
    exact h1
  · exact h.nd.sublist ((List.filter_sublist).map _)
  · exact h.srt.filter _
  · intro x hx
    rcases List.mem_cons.1 hx with rfl | hx
    · exact ⟨by simp only; omega, hc.1.2⟩
    · exact h.fpos x (List.mem_filter.1 hx).1
  · intro x hx; exact h.idin x (List.mem_filter.1 hx).1
  · have := List.length_filter_le (fun x : Rw => !pastF (putR r.F p n) p x.id x) r.L
    simp only; omega
theorem Rel.act (h : Rel t r) (a : Ac) (hd : a.d.In) : Rel (doF t a).2 (playR r a) ∧ (playR r a).L.length ≤ r.L.length + 1 ∧ (playR r a).F.length ≤ r.F.length + 1 := by
  rw [doF, playR]
  split
  · obtain ⟨_, h1, h2, h3⟩ := h.begin hd
    exact ⟨h1, h2, by rw [h3]; omega⟩
  · split
    · obtain ⟨_, h1, h2, h3⟩ := h.end (d := a.d) a.c a.v
      exact ⟨h1, h2, by rw [h3]; omega⟩
    · split
      · exact h.raise _ _
      · exact ⟨h, by omega, by omega⟩
def sameT (t u : Tb) : Bool := decide (t.win = u.win) && eqMap t.R u.R && eqMap t.Fl u.Fl
theorem sameT_iff (h : Rel t r) (k : Rel u s) : sameT t u = true ↔ t.win = u.win ∧ t.R.Perm u.R ∧ t.Fl.Perm u.Fl := by
  rw [sameT, Bool.and_eq_true, Bool.and_eq_true, decide_eq_true_eq, eqMap_perm h.nd k.nd, eqMap_perm h.nf k.nf, and_assoc]
theorem sameT_self (h : Rel t r) : sameT t t = true := (sameT_iff h h).2 ⟨rfl, .refl _, .refl _⟩
theorem sameT_comm (h : Rel t r) (k : Rel u s) : sameT t u = sameT u t := by
  rw [Bool.eq_iff_iff, sameT_iff h k, sameT_iff k h]
  exact ⟨fun ⟨a, b, c⟩ => ⟨a.symm, b.symm, c.symm⟩, fun ⟨a, b, c⟩ => ⟨a.symm, b.symm, c.symm⟩⟩
end
end Go.Proofs
namespace Go.Proofs
open Go X RowKit
theorem sorted_perm : ∀ {l l' : List Rw}, l.Perm l' → l.Pairwise (fun x y => x.id.num < y.id.num) → l'.Pairwise (fun x y => x.id.num < y.id.num) → l = l'
  | [], l', h, _, _ => (List.nil_perm.1 h).symm
  | a :: l, [], h, _, _ => by simpa using h.length_eq
  | a :: l, b :: l', h, h1, h2 => by
    have h1' := List.pairwise_cons.1 h1
    have h2' := List.pairwise_cons.1 h2
    have hab : a = b := by
      rcases List.mem_cons.1 (h.mem_iff.1 (List.mem_cons_self : a ∈ a :: l)) with e | e
      · exact e
      · rcases List.mem_cons.1 (h.mem_iff.2 (List.mem_cons_self : b ∈ b :: l')) with e2 | e2
        · exact e2.symm
        · have := h1'.1 b e2; have := h2'.1 a e; omega
    subst hab
    rw [sorted_perm h.cons_inv h1'.2 h2'.2]
section
variable {t u : Tb} {r s : Rt}
theorem same_same (h : Rel t r) (k : Rel u s) : sameT t u = sameR r s := by
  rw [Bool.eq_iff_iff, sameT_iff h k, sameR, decide_eq_true_eq, h.win, k.win]
  have hR : t.R.Perm u.R ↔ r.L = s.L := by
    constructor
    · intro hp
      have h1 := (h.R.symm.trans hp).trans k.R
      have h2 := h1.map Prod.snd
      rw [List.map_map, List.map_map] at h2
      have e : (Prod.snd ∘ kv) = (id : Rw → Rw) := rfl
      rw [e, List.map_id, List.map_id] at h2
      exact sorted_perm h2 h.srt k.srt
    · intro e
      have h1 := h.R
      rw [e] at h1
      exact h1.trans k.R.symm
  have hF : t.Fl.Perm u.Fl ↔ (r.F.length = s.F.length ∧ ∀ x ∈ r.F, floorF s.F x.1 = x.2) := by
    rw [← eqMap_perm h.nf k.nf, eqMap, decide_eq_true_eq, h.F.length_eq, k.F.length_eq]
    refine and_congr_right fun _ => ?_
    constructor
    · intro hx x hm
      have := hx x (h.F.mem_iff.2 hm)
      rw [← k.floor, floorF, this]; rfl
    · intro hx x hm
      have hm' := h.F.mem_iff.1 hm
      have h1 := hx x hm'
      have h2 := (h.fpos x hm').1
      rw [fnd_perm k.F k.nf]
      rw [floorF] at h1
      cases hq : fnd x.1 s.F with
      | none => rw [hq] at h1; simp only [Option.getD_none] at h1; omega
      | some v => rw [hq] at h1; simp only [Option.getD_some] at h1; rw [h1]
  rw [hR, hF]
end
theorem Rel.ok {t : Tb} {r : Rt} (h : Rel t r) (n : Nat) (hn : n ≤ 1000) (hL : r.L.length ≤ n) (hF : r.F.length ≤ n) : r.Ok :=
  ⟨h.idin, by omega, by omega, fun x hx => by have := h.fpos x hx; omega⟩
def r0 (a : Int) : Rt := ⟨if (16 : Int) < (if (1 : Int) > a then 1 else a) then 16 else (if (1 : Int) > a then 1 else a), [], []⟩
theorem rel0 (a : Int) : Rel (tb0 a) (r0 a) := by
  refine ⟨?_, .refl _, by simp, .refl _, by simp, by simp [r0], by simp [r0], by simp [r0]⟩
  show winF a = _
  rw [winF, r0]
  exact w_u32 (by split <;> (try split) <;> omega) (by split <;> (try split) <;> omega)
theorem c_play (b : Nat) (r : Rt) (kd : Int) (d : I) (c : Int) (v : ByteArray) (nn : Int) (hd : d.In) (hr : r.Ok) (hfl : r.F.length < 100000) :
    Ctr Try.prog 15 #[.pointer (some ⟨b, 0, none⟩), .agg #[.int .i64 kd, .int .u8 d.n, .int .u16 d.l, .int .u32 d.s, .int .u8 d.d, .int .u8 d.g0, .int .u8 d.i0, .int .u8 d.g1, .int .u8 d.i1, .int .u8 d.g2, .int .u8 d.i2, .int .u8 c, .string v, .int .u32 nn]] noMem [rtA b r] (fun _ : Unit => .tuple #[]) (fun _ _ => True) (fun _ => [rtA b (playR r ⟨kd, d, c, v, nn⟩)]) := by
  refine Ctr.mk fun w F m C _ => x_gemotlaw14_play _ _ _ _ _ _ _ _ _ _ _ _ _ _ _ w _ ?_
  let K : Ending → World → Prop := fun e w' => ∃ i : Unit, ∃ m' L, e = .returned (.tuple #[]) ∧ True ∧ Ctx F m w w' L m' [rtA b (playR r ⟨kd, d, c, v, nn⟩)]
  have wB : (kd = 0 ∨ kd = 1 ∨ kd = 2) → ∀ w' L', Hid [] w w' → NewL w.heap.size [] w w' L' →
      CallX Try.prog 22 #[.pointer (some ⟨b, 0, none⟩), d.V] w' fun e w2 => ∃ n, e = .returned (.int .i64 n) ∧ Kept L' w' w2 ∧ K (.returned (.tuple #[])) w2 := by
    intro hk w' L' hh gg
    refine (c_rBegin b r d hd hr).call (As := []) (C.hidL hh gg) trivial fun _ m3 w7 hk1 hm _ C => ⟨_, rfl, hk1, (), m3, L', rfl, trivial, ?_⟩
    rw [playR, if_pos hk]; exact C
  have wE : (kd = 3 ∨ kd = 4) → ∀ w' L', Hid [] w w' → NewL w.heap.size [] w w' L' →
      CallX Try.prog 25 #[.pointer (some ⟨b, 0, none⟩), d.V, .agg #[.int .u8 c, .string v]] w' fun e w3 => ∃ n2, e = .returned (.bool n2) ∧ Kept L' w' w3 ∧ K (.returned (.tuple #[])) w3 := by
    intro hk w' L' hh gg
    have hn : ¬ (kd = 0 ∨ kd = 1 ∨ kd = 2) := by omega
    refine (c_rEnd b r d c v hd hr).call (As := []) (C.hidL hh gg) trivial fun _ m3 w7 hk1 hm _ C => ⟨_, rfl, hk1, (), m3, L', rfl, trivial, ?_⟩
    rw [playR, if_neg hn, if_pos hk]; exact C
  have wR : kd = 5 → ∀ w' L', Hid [] w w' → NewL w.heap.size [] w w' L' →
      CallX Try.prog 27 #[.pointer (some ⟨b, 0, none⟩), .agg #[.int .u8 d.n, .int .u16 d.l], .int .u32 nn] w' fun e w2 => e = .returned (.tuple #[]) ∧ Kept L' w' w2 ∧ K (.returned (.tuple #[])) w2 := by
    intro hk w' L' hh gg
    refine (c_rRaise b r (d.n, d.l) nn hr hfl).call (As := []) (C.hidL hh gg) trivial fun _ m3 w7 hk1 hm _ C => ⟨rfl, hk1, (), m3, L', rfl, trivial, ?_⟩
    rw [playR, if_neg (by simp only; omega), if_neg (by simp only; omega), if_pos hk]; exact C
  have wN : ¬ (kd = 0 ∨ kd = 1 ∨ kd = 2) → ¬ (kd = 3 ∨ kd = 4) → ¬ kd = 5 → ∀ w' : World, Hid [] w w' → K (.returned (.tuple #[])) w' := by
    intro k0 k3 k5 w' hh
    refine ⟨(), m, [], rfl, trivial, ?_⟩
    rw [playR, if_neg k0, if_neg k3, if_neg k5]; exact C.hid0 hh
  by_cases h0 : kd = 0
  · subst h0; rw [if_pos (by decide), if_pos (by decide)]; exact wB (by omega)
  by_cases h1 : kd = 1
  · subst h1; rw [if_neg (by decide), if_pos (by decide), if_pos (by decide)]; exact wB (by omega)
  by_cases h2 : kd = 2
  · subst h2; rw [if_neg (by decide), if_neg (by decide), if_pos (by decide)]; exact wB (by omega)
  by_cases h3 : kd = 3
  · subst h3; rw [if_neg (by decide), if_neg (by decide), if_neg (by decide), if_pos (by decide), if_pos (by decide)]; exact wE (by omega)
  by_cases h4 : kd = 4
  · subst h4; rw [if_neg (by decide), if_neg (by decide), if_neg (by decide), if_neg (by decide), if_pos (by decide)]; exact wE (by omega)
  by_cases h5 : kd = 5
  · subst h5; rw [if_neg (by decide), if_neg (by decide), if_neg (by decide), if_neg (by decide), if_neg (by decide), if_pos (by decide)]; exact wR rfl
  rw [if_neg (by simpa using h0), if_neg (by simpa using h1), if_neg (by simpa using h2), if_neg (by simpa using h3), if_neg (by simpa using h4), if_neg (by simpa using h5)]
  exact wN (by omega) (by omega) h5
end Go.Proofs
