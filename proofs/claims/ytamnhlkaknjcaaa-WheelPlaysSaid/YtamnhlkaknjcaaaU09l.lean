import Derived.Test.YtamnhlkaknjcaaaU09k
set_option linter.unusedVariables false
set_option linter.unusedSimpArgs false
set_option maxRecDepth 10000
namespace Go.Proofs
open Go X RowKit Go.Sort
theorem w1 (k : Nat) (hk : k ≤ 1000000) : IntKind.wrap .i64 ((k : Int) + 1) = ((k + 1 : Nat) : Int) := by rw [w_i64 (by omega) (by omega)]; omega
abbrev Sl := Option Addr × Nat
abbrev slV (p : Sl) (n : Nat) : Value := .slice p.1 n p.2
abbrev jsA (ty : TypeId) (p : Sl) (L : List J) : Asn := slA (slV p L.length) L.length (L.flatMap jR) ty 13
theorem js_elem {F0 : List Nat} {m0 : Mem} {w0 w : World} {L : List Nat} {m : Mem} {As : List Asn} {l : List J} {p : Sl} {ty : TypeId} (C : Ctx F0 m0 w0 w L m (jsA ty p l :: As)) {j : Nat} (hj : j < l.length) :
    ∃ a, p.1 = some a ∧ Cells w (a.add (j * 13)) (jR l[j]) ∧ (a.add (j * 13)).block ∉ L := by
  have hc := C.slCells
  have hne : l.flatMap jR ≠ [] := fun e => by
    have := flat_len jR_len l
    rw [e] at this
    simp at this; omega
  cases hp : p.1 with
  | none => exact absurd (hc.2 hp) hne
  | some a =>
    obtain ⟨h1, h2⟩ := hc.1 a hp
    exact ⟨a, rfl, cells_elem jR_len h1 j hj, by rw [addr_block]; exact h2 hne⟩
theorem c_none (b : Nat) (s : Wh) : Ctr Try.prog 35 #[.pointer (some ⟨b, 0, none⟩)] noMem [whA b s] (fun _ : Unit => .bool false) (fun _ _ => True) (fun _ => [whA b s]) := by
  refine Ctr.mk fun w F m C _ => x_wheel_Wheel_none _ w _ ?_
  obtain ⟨mb, C⟩ := whO C
  exact ⟨some mb, C.blkCell (j := 0) rfl, Ctr.ret () rfl trivial (whI mb C)⟩
def mostF (a : Int) : Int := if (512 : Int) < (if (0 : Int) > a then 0 else a) then 512 else (if (0 : Int) > a then 0 else a)
theorem c_New (a : Int) : Ctr Try.prog 11 #[.int .i64 a] noMem [] (fun b : Nat => .pointer (some ⟨b, 0, none⟩)) (fun _ _ => True) (fun b => [whA b ⟨mostF a, []⟩]) := by
  refine Ctr.mk fun w F m C _ => x_wheel_New _ w _ ?_
  have C1 := C.mapNew jV tV
  have C2 := (C1.alloc [.map (some w.heap.size), .int .i64 (mostF a)] 74)
  exact Ctr.ret _ rfl trivial (whI _ C2)
theorem c_Len (b : Nat) (s : Wh) : Ctr Try.prog 25 #[.pointer (some ⟨b, 0, none⟩)] noMem [whA b s] (fun _ : Unit => .int .i64 s.l.length) (fun _ _ => True) (fun _ => [whA b s]) := by
  refine Ctr.mk fun w F m C _ => x_wheel_Wheel_Len _ w _ ?_
  refine (c_none b s).call C trivial fun _ m1 w2 hk hm _ C => ⟨_, rfl, hk.size, ?_⟩
  rw [if_neg (by decide)]
  obtain ⟨mb, C⟩ := whO C
  refine ⟨some mb, C.blkCell (j := 0) rfl, _, w2, Ctx.mlen (P := Try.prog) (ty := 3) t72 (C.pm [1, 0] rfl), Nat.le_refl _, ?_⟩
  exact Ctr.ret () rfl trivial (whI mb C)
theorem c_At (b : Nat) (s : Wh) (d : J) : Ctr Try.prog 19 #[.pointer (some ⟨b, 0, none⟩), jV d] noMem [whA b s] (fun _ : Unit => .tuple #[.int .i64 (atF s.l d), .bool (fnd d s.l).isSome]) (fun _ _ => True) (fun _ => [whA b s]) := by
  refine Ctr.mk fun w F m C _ => x_wheel_Wheel_At _ _ _ _ _ _ _ _ _ _ _ _ _ _ w _ fun w1 L2 h1 g1 => ?_
  refine (c_none b s).call (C.hidL h1 g1) trivial fun _ m1 w4 hk hm _ C => ⟨_, rfl, hk, ?_⟩
  rw [if_neg (by decide)]
  obtain ⟨mb, C⟩ := whO C
  have hf : ∀ {w' L'} {As' : List Asn}, Ctx F m w w' L' m1 (whB b s.most mb :: As') → FactsW [(⟨b, 0, none⟩, [.map (some mb)])] w' L' := fun C => C.blkFact1 0 _ rfl (facts_nil _ _)
  refine ⟨_, hf C, some mb, by simp [Addr.add_mid], fun w8 L9 h8 g8 => ?_⟩
  replace C := C.hidL h8 g8
  exact ⟨_, _, w8, look_wh (C.pm [1, 0] rfl) d, kept_refl _ _, hf C, Ctr.ret () rfl trivial (whI mb C)⟩
def cancelF (s : Wh) (d : J) : Bool × Wh := if (fnd d s.l).isSome then (true, { s with l := X.mdel d s.l }) else (false, s)
theorem c_Cancel (b : Nat) (s : Wh) (d : J) : Ctr Try.prog 17 #[.pointer (some ⟨b, 0, none⟩), jV d] noMem [whA b s] (fun _ : Unit => .bool (cancelF s d).1) (fun _ _ => True) (fun _ => [whA b (cancelF s d).2]) := by
  refine Ctr.mk fun w F m C _ => x_wheel_Wheel_Cancel _ _ _ _ _ _ _ _ _ _ _ _ _ _ w _ fun w1 L2 h1 g1 => ?_
  refine (c_At b s d).call (As := []) (C.hidL h1 g1) trivial fun _ m1 w4 hk hm _ C => ⟨_, _, rfl, hk, ?_⟩
  cases hh : (fnd d s.l).isSome with
  | false =>
    rw [if_neg (by decide)]
    have e : cancelF s d = (false, s) := by simp [cancelF, hh]
    rw [e]; exact Ctr.ret () rfl trivial C
  | true =>
    rw [if_pos rfl]
    have e : cancelF s d = (true, { s with l := X.mdel d s.l }) := by simp [cancelF, hh]
    rw [e]
    obtain ⟨mb, C⟩ := whO C
    refine ⟨[(⟨b, 0, none⟩, [.map (some mb)])], C.blkFact1 0 _ rfl (facts_nil _ _), some mb, by simp [Addr.add_mid], fun w9 L10 h9 g9 => ?_⟩
    obtain ⟨w11, hrn, hk3, C2⟩ := Ctx.mdel (P := Try.prog) (ty := 0) t72 key40 ((C.hidL h9 g9).pm [1, 0] rfl) d
    exact ⟨w11, hrn, hk3, Ctr.ret (m' := m1) (L := L10) () rfl trivial (whI mb (C2.pm [1, 0] rfl))⟩
def setF (s : Wh) (d : J) (t : Int) : Int × Wh := if !(fnd d s.l).isSome && decide ((s.l.length : Int) ≥ s.most) then (11, s) else (0, { s with l := X.mput d t s.l })
theorem c_Set (b : Nat) (s : Wh) (d : J) (t : Int) : Ctr Try.prog 13 #[.pointer (some ⟨b, 0, none⟩), jV d, .int .i64 t] noMem [whA b s] (fun _ : Unit => .int .i64 (setF s d t).1) (fun _ _ => True) (fun _ => [whA b (setF s d t).2]) := by
  refine Ctr.mk fun w F m C _ => x_wheel_Wheel_Set _ _ _ _ _ _ _ _ _ _ _ _ _ _ _ w _ fun w1 L2 h1 g1 => ?_
  refine (c_none b s).call (C.hidL h1 g1) trivial fun _ m1 w4 hk hm _ C => ⟨_, rfl, hk, ?_⟩
  rw [if_neg (by decide)]
  obtain ⟨mb, C⟩ := whO C
  have hf : ∀ {w' L'} {As' : List Asn}, Ctx F m w w' L' m1 (whB b s.most mb :: As') → FactsW [(⟨b, 0, none⟩, [.map (some mb)]), (⟨b, 1, none⟩, [.int .i64 s.most])] w' L' := fun C => C.blkFact1 0 _ rfl (C.blkFact1 1 _ rfl (facts_nil _ _))
  have put : ∀ {w' L'}, setF s d t = (0, { s with l := X.mput d t s.l }) → Ctx F m w w' L' m1 [whB b s.most mb, whM mb s.l] → ∃ x : Facts, FactsW x w' L' ∧ ∃ q : Option Nat, ((((⟨b, 0, none⟩ : Addr).add 0), [.map q]) ∈ x) ∧ ∀ w27 : World, ∀ L28 : List Nat, X.Hid L' w' w27 → X.NewL w.heap.size L' w' w27 L28 →
      ∃ w29 : World, (Sem.run Try.prog (Go.Instr.mapUpdate 72 (.map q) (jV d) (.int .i64 t)) w27 = .ok PUnit.unit w29) ∧ X.Kept L28 w27 w29 ∧ ∃ (i : Unit) (m' : Mem) (L : List Nat), (Ending.returned (.int .i64 0) = .returned (.int .i64 (setF s d t).1)) ∧ True ∧ Ctx F m w w29 L m' [whA b (setF s d t).2] := by
    intro w' L' e C
    refine ⟨_, hf C, some mb, by simp [Addr.add_mid], fun w27 L28 h27 g27 => ?_⟩
    obtain ⟨w29, hrn, hk3, C2⟩ := Ctx.mput (P := Try.prog) t72 key40 ((C.hidL h27 g27).pm [1, 0] rfl) d t
    rw [e]
    exact ⟨w29, hrn, hk3, Ctr.ret (m' := m1) (L := L28) () rfl trivial (whI mb (C2.pm [1, 0] rfl))⟩
  refine ⟨_, hf C, some mb, by simp [Addr.add_mid], fun w8 L9 h8 g8 => ?_⟩
  replace C := C.hidL h8 g8
  refine ⟨_, _, w8, look_wh (C.pm [1, 0] rfl) d, kept_refl _ _, hf C, _, hf C, ?_⟩
  cases hh : (fnd d s.l).isSome with
  | true =>
    rw [if_neg (by decide)]
    exact put (by simp [setF, hh]) C
  | false =>
    rw [if_pos (by decide)]
    refine ⟨some mb, by simp [Addr.add_mid], s.most, by simp [Addr.add_mid], fun w21 L22 h21 g21 => ?_⟩
    replace C := C.hidL h21 g21
    refine ⟨_, w21, Ctx.mlen (P := Try.prog) (ty := 3) t72 (C.pm [1, 0] rfl), kept_refl _ _, hf C, ?_⟩
    by_cases hl : (s.l.length : Int) ≥ s.most
    · rw [if_pos (by simpa using hl)]
      have e : setF s d t = (11, s) := by simp [setF, hh, hl]
      rw [e]; exact Ctr.ret (m' := m1) (L := L22) () rfl trivial (whI mb C)
    · rw [if_neg (by simpa using hl)]
      exact put (by simp [setF, hh, hl]) C
/-- Next: the least time -/
def LeastOf (l : List (J × Int)) (r : Int × Bool) : Prop := (r = (0, false) ∧ l = []) ∨ (r.2 = true ∧ (∃ x ∈ l, x.2 = r.1) ∧ ∀ x ∈ l, r.1 ≤ x.2)
theorem c_Next (b : Nat) (s : Wh) : Ctr Try.prog 23 #[.pointer (some ⟨b, 0, none⟩)] noMem [whA b s] (fun r : Int × Bool => .tuple #[.int .i64 r.1, .bool r.2]) (fun r _ => LeastOf s.l r) (fun _ => [whA b s]) := by
  refine Ctr.mk fun w F m C _ => x_wheel_Wheel_Next _ w _ ?_
  refine (c_none b s).call C trivial fun _ m1 w2 hk hm _ C => ⟨_, rfl, hk.size, ?_⟩
  rw [if_neg (by decide)]
  obtain ⟨mb, C⟩ := whO C
  refine ⟨some mb, C.blkCell (j := 0) rfl, ?_⟩
  obtain ⟨zs, clock, hzs, hnd, C⟩ := Ctx.mapZI (C.pm [1, 0] rfl)
  obtain ⟨hr, hk13, C1⟩ := C.mrange (P := Try.prog) t72
  refine ⟨_, _, hr, hk13.size, ?_⟩
  generalize hit : w2.heap.size = it at C1 ⊢
  refine ⟨fun n bo w' L' => ∃ (seen : Array Nat) (last : Nat) (ys : List ((J × Int) × Nat)) (m' : Mem), clock ≤ last ∧ Walked zs ys seen ∧ LeastOf (ys.map Prod.fst) (n, bo) ∧
    Ctx F m w w' [] m' [iterA it mb clock seen last, mapZ mb jV tV zs clock, whB b s.most mb], fun n bo w' => zs.length + 1 - seenN w' it,
    ⟨#[], clock, [], m1, Nat.le_refl _, Walked.nil _, .inl ⟨rfl, rfl⟩, C1⟩, ?_⟩
  clear C1 hr hk C hk13
  rintro n bo w11 L12 _ ⟨seen, last, ys, m', hlast, hw, hle, D⟩
  have hsz0 := seenN_obj D.objAt.1
  rcases Ctx.mnext (P := Try.prog) 0 rfl hlast D with ⟨hall, hnx⟩ | ⟨i, hi, w15, hns, hnx, hk9, D9⟩
  · refine ⟨false, [], w11, hnx, Nat.le_refl _, ?_⟩
    rw [if_neg (by decide)]
    have hp := hw.perm hnd hall
    rw [hzs] at hp
    have D2 := D.drop.mapZA
    rw [hzs] at D2
    refine Ctr.ret (m' := m') (L := []) (n, bo) rfl ?_ (whI mb (D2.pm [1, 0] rfl))
    rcases hle with ⟨h1, h2⟩ | ⟨h1, ⟨x, hx, h2⟩, h3⟩
    · rw [h2] at hp
      exact .inl ⟨h1, hp.nil_eq.symm⟩
    · exact .inr ⟨h1, ⟨x, hp.subset hx, h2⟩, fun y hy => h3 y (hp.symm.subset hy)⟩
  · refine ⟨true, [_, _], w15, hnx, hk9.size, ?_⟩
    rw [if_pos rfl]
    have hent := Ctx.mentry (P := Try.prog) hi D9
    refine ⟨_, _, _, _, _, _, _, _, _, _, _, _, _, _, w15, hent, Nat.le_refl _, ?_⟩
    have hw2 := hw.push hi hns
    have hc2 := hw2.len
    rw [Array.size_push] at hc2
    have hmeas : Nat.le (zs.length + 1 - seenN w15 it + 1) (zs.length + 1 - seenN w11 it) := by
      rw [seenN_obj D9.objAt.1, hsz0, Array.size_push]; exact Nat.le_of_eq (by omega)
    have emap : (ys ++ [zs[i]]).map Prod.fst = ys.map Prod.fst ++ [zs[i].1] := by simp
    by_cases hc : ((!bo) || decide (zs[i].1.2 < n)) = true
    · rw [if_pos hc]
      refine ⟨⟨_, clock, ys ++ [zs[i]], m', Nat.le_refl _, hw2, ?_, D9.noL⟩, hmeas⟩
      rw [emap]
      refine .inr ⟨rfl, ⟨zs[i].1, by simp, rfl⟩, fun y hy => ?_⟩
      rcases List.mem_append.1 hy with hy | hy
      · rcases hle with ⟨h1, h2⟩ | ⟨h1, _, h3⟩
        · rw [h2] at hy; cases hy
        · have := h3 y hy
          simp only at h1
          rw [h1] at hc
          simp at hc
          simp only at this ⊢; omega
      · simp only [List.mem_singleton] at hy; subst hy; exact Int.le_refl _
    · rw [if_neg hc]
      refine ⟨⟨_, clock, ys ++ [zs[i]], m', Nat.le_refl _, hw2, ?_, D9.noL⟩, hmeas⟩
      rw [emap]
      simp only [Bool.or_eq_true, Bool.not_eq_true', decide_eq_true_eq, not_or, Bool.not_eq_false] at hc
      rcases hle with ⟨h1, h2⟩ | ⟨h1, ⟨x, hx, h2⟩, h3⟩
      · injection h1 with _ h1; rw [h1] at hc; exact absurd hc.1 (by decide)
      · refine .inr ⟨h1, ⟨x, by simp [hx], h2⟩, fun y hy => ?_⟩
        rcases List.mem_append.1 hy with hy | hy
        · exact h3 y hy
        · simp only [List.mem_singleton] at hy; subst hy; simp only; omega
/-- Due -/
def dueF (s : Wh) (now : Int) : List J := sortBy (cmpT s.l) ((s.l.filter fun x => decide (x.2 ≤ now)).map Prod.fst)
def delL (ds : List J) (l : List (J × Int)) : List (J × Int) := ds.foldl (fun l d => X.mdel d l) l
theorem b52 : appB Try.prog 52 52 40 13 96 = true := by kernel_rfl
theorem dueF_len (s : Wh) (now : Int) : (dueF s now).length ≤ s.l.length := by
  rw [dueF, sortBy_len, List.length_map]; exact List.length_filter_le _ _
theorem c_Due (b : Nat) (s : Wh) (hs : s.l.length ≤ 1000000) (now : Int) : Ctr Try.prog 14 #[.pointer (some ⟨b, 0, none⟩), .int .i64 now] noMem [whA b s] (fun v : Sl => slV v (dueF s now).length) (fun _ _ => True) (fun v => [jsA 40 v (dueF s now), whA b { s with l := delL (dueF s now) s.l }]) := by
  refine Ctr.mk fun w F m C _ => x_wheel_Wheel_Due _ _ w _ ?_
  refine (c_none b s).call C trivial fun _ m1 w2 hk hm _ C => ⟨_, rfl, hk.size, ?_⟩
  rw [if_neg (by decide)]
  obtain ⟨mb, C⟩ := whO C
  refine ⟨some mb, C.blkCell (j := 0) rfl, ?_⟩
  obtain ⟨zs, clock, hzs, hnd, C⟩ := Ctx.mapZI (C.pm [1, 0] rfl)
  have hlen : zs.length = s.l.length := by rw [← hzs]; simp
  obtain ⟨hr, hk13, C1⟩ := C.mrange (P := Try.prog) t72
  refine ⟨_, _, hr, hk13.size, ?_⟩
  generalize hit : w2.heap.size = it at C1 ⊢
  let acc : List ((J × Int) × Nat) → List J := fun ys => ((ys.map Prod.fst).filter fun x => decide (x.2 ≤ now)).map Prod.fst
  have hacc : ∀ ys, (acc ys).length ≤ ys.length := fun ys => by
    simp only [acc, List.length_map]
    exact Nat.le_trans (List.length_filter_le _ _) (by simp)
  refine ⟨fun q n c w' L' => ∃ (seen : Array Nat) (last : Nat) (ys : List ((J × Int) × Nat)) (m' : Mem), clock ≤ last ∧ Walked zs ys seen ∧ n = (acc ys).length ∧
    Ctx F m w w' [] m' [iterA it mb clock seen last, mapZ mb jV tV zs clock, jsA 40 (q, c) (acc ys), whB b s.most mb], fun q n c w' => zs.length + 1 - seenN w' it,
    ⟨#[], clock, [], m1, Nat.le_refl _, Walked.nil _, rfl, (Ctx.slNil (q := none) (ty := 40) (sz := 13) C1).pm [1, 2, 0, 3] rfl⟩, ?_⟩
  clear C1 hr hk C hk13
  rintro q n c w12 L13 _ ⟨seen, last, ys, m', hlast, hw, rfl, D⟩
  have hsz0 := seenN_obj D.objAt.1
  rcases Ctx.mnext (P := Try.prog) 0 rfl hlast D with ⟨hall, hnx⟩ | ⟨i, hi, w16, hns, hnx, hk9, D9⟩
  · refine ⟨false, [], w12, hnx, Nat.le_refl _, ?_⟩
    rw [if_neg (by decide)]
    have hp := hw.perm hnd hall
    rw [hzs] at hp
    have hyl : ys.length = s.l.length := by have := hp.length_eq; simpa using this
    have hal : (acc ys).length ≤ 1000000 := by have := hacc ys; omega
    have D2 := D.drop.mapZA
    rw [hzs] at D2
    refine ⟨(x_wheel_Wheel_order _ w12 _ ⟨_, rfl, by simp, ?_⟩)⟩
    have D3 := D2.alloc [.pointer (some ⟨b, 0, none⟩)] 46
    generalize hz : w12.heap.size = z at D3 ⊢
    refine (c_Sort z b mb s.most s.l (acc ys) (.slice q (acc ys).length c)).call (As := []) (D3.pm [2, 0, 3, 1] rfl) (by omega) fun _ m3 w21 hk hm3 _ C => ⟨rfl, hk.size, ?_⟩
    have hsort : sortBy (cmpT s.l) (acc ys) = dueF s now := sortBy_eq (swoT s.l) (totT s.l) ((hp.filter _).map Prod.fst)
    have hdl : (dueF s now).length = (acc ys).length := by rw [← hsort, sortBy_len]
    rw [hsort] at C
    rw [← hdl] at C ⊢
    clear D D2 D3 hsort
    have C2 : Ctx F m w w21 [] m3 [jsA 40 (q, c) (dueF s now), whB b s.most mb, whM mb s.l] := C.pk [0, 2, 3] [1] rfl
    refine ⟨fun n w' L' => ∃ (j : Nat), n = j ∧ j ≤ (dueF s now).length ∧ Ctx F m w w' [] m3 [jsA 40 (q, c) (dueF s now), whB b s.most mb, whM mb (delL ((dueF s now).take j) s.l)], fun n _ => ((dueF s now).length - n).toNat, ⟨0, rfl, Nat.zero_le _, C2⟩, ?_⟩
    clear C C2
    rintro n w25 L26 _ ⟨j, rfl, hj, D⟩
    by_cases hjl : j < (dueF s now).length
    rotate_left
    · rw [if_neg (by simpa using hjl)]
      have : j = (dueF s now).length := by omega
      subst this
      rw [List.take_length] at D
      exact Ctr.ret (m' := m3) (L := []) (q, c) rfl trivial ((whI (s := { s with l := delL (dueF s now) s.l }) mb (D.pm [1, 2, 0] rfl)).swap)
    rw [if_pos (by simpa using hjl)]
    obtain ⟨pa, hpa, hc, hcb⟩ := js_elem D hjl
    simp only at hpa
    subst hpa
    refine ⟨by omega, by simpa using hjl, ?_⟩
    rw [onSome_some]
    refine ⟨_, _, _, _, _, _, _, _, _, _, _, _, _, hc, [(⟨b, 0, none⟩, [.map (some mb)])], (D.pm [1, 0, 2] rfl).noL.blkFact1 0 _ rfl (facts_nil _ _), some mb, by simp [Addr.add_mid], fun w43 L44 h43 g43 => ?_⟩
    obtain ⟨w45, hrn, hk45, D4⟩ := Ctx.mdel (P := Try.prog) (ty := 0) t72 key40 ((D.noL.hidL h43 g43).pm [2, 0, 1] rfl) ((dueF s now)[j])
    refine ⟨w45, hrn, hk45, ?_, ?_⟩
    · rw [w1 j (by omega)]
      refine ⟨j + 1, rfl, hjl, ?_⟩
      have e : delL ((dueF s now).take (j + 1)) s.l = X.mdel ((dueF s now)[j]) (delL ((dueF s now).take j) s.l) := by
        rw [List.take_succ_eq_append_getElem hjl, delL, List.foldl_append]; rfl
      rw [e]
      exact (D4.pm [1, 2, 0] rfl).noL
    · rw [w1 j (by omega)]
      show (((dueF s now).length : Int) - ((j + 1 : Nat) : Int)).toNat + 1 ≤ (((dueF s now).length : Int) - (j : Int)).toNat
      omega
  · refine ⟨true, [_, _], w16, hnx, hk9.size, ?_⟩
    rw [if_pos rfl]
    have hent := Ctx.mentry (P := Try.prog) hi D9
    refine ⟨_, _, _, _, _, _, _, _, _, _, _, _, _, _, w16, hent, Nat.le_refl _, ?_⟩
    have hw2 := hw.push hi hns
    have hc2 := hw2.len
    have hys := hw.size
    rw [Array.size_push] at hc2
    have hal : (acc ys).length ≤ 1000000 := by have := hacc ys; omega
    have eacc : acc (ys ++ [zs[i]]) = acc ys ++ (if zs[i].1.2 ≤ now then [zs[i].1.1] else []) := by
      simp only [acc, List.map_append, List.filter_append, List.map_cons, List.map_nil]
      congr 1
      by_cases h : zs[i].1.2 ≤ now <;> simp [h]
    by_cases hn : zs[i].1.2 ≤ now
    · rw [if_pos (by simpa using hn)]
      intro w63 L64 h63 g63
      have D10 := D9.hidL h63 g63
      have D11 := D10.alloc (jR zs[i].1.1) 40
      have hsrc : Src (w63.alloc (.cells (jR zs[i].1.1).toArray 40)) 13 (.slice (some ⟨w63.heap.size, 0, none⟩) 1 1) 1 (jR zs[i].1.1) :=
        .some _ _ _ _ (by rfl) (D11.blkCells fun j v hj => by simpa using hj)
      obtain ⟨q2, c2, w68, hap, hk68, D12⟩ := Ctx.app (P := Try.prog) (D11.pm [3, 0, 1, 2, 4] rfl) 52 b52 hsrc (by omega) (jR_one _)
      have e1 : (acc ys ++ [zs[i].1.1]).length = (acc ys).length + 1 := by simp
      have e2 : (acc ys ++ [zs[i].1.1]).flatMap jR = (acc ys).flatMap jR ++ jR zs[i].1.1 := by simp
      rw [if_pos hn] at eacc
      refine ⟨_, _, _, w68, hap, hk68, ⟨_, clock, ys ++ [zs[i]], m', Nat.le_refl _, hw2, by rw [eacc, e1], ?_⟩, ?_⟩
      · rw [eacc]
        unfold jsA slV
        rw [e1, e2]
        exact (D12.pk [2, 3, 0, 4] [1] rfl).noL
      · show Nat.le (zs.length + 1 - seenN w68 it + 1) (zs.length + 1 - seenN w12 it)
        rw [seenN_obj (D12.pm [2, 0, 1, 3, 4] rfl).objAt.1, hsz0, Array.size_push]; exact Nat.le_of_eq (by omega)
    · rw [if_neg (by simpa using hn)]
      intro w61 L62 h61 g61
      have D10 := D9.hidL h61 g61
      rw [if_neg hn, List.append_nil] at eacc
      refine ⟨⟨_, clock, ys ++ [zs[i]], m', Nat.le_refl _, hw2, by rw [eacc], by rw [eacc]; exact D10.noL⟩, ?_⟩
      show Nat.le (zs.length + 1 - seenN w61 it + 1) (zs.length + 1 - seenN w12 it)
      rw [seenN_obj D10.objAt.1, hsz0, Array.size_push]; exact Nat.le_of_eq (by omega)
end Go.Proofs
