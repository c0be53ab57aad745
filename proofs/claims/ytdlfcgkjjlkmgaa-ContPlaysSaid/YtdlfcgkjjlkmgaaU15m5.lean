import Derived.Test.YtdlfcgkjjlkmgaaU15m4
import Derived.Test.YtdlfcgkjjlkmgaaXStr
import Derived.Test.YtdlfcgkjjlkmgaaV15m2
import Derived.Test.YtdlfcgkjjlkmgaaU15m3
set_option linter.unusedVariables false
set_option linter.unusedSimpArgs false
set_option maxRecDepth 10000
namespace Go.Proofs
open Go X RowKit Go.Sort
def Ct.right (x : Ct) : Bool := ((x.id.1.right && x.first.right) && rightL x.rest) && decide (1 + (x.rest.length : Int) + x.id.1.d ≤ 4)
theorem c_ctRight (x : Ct) : Ctr Try.prog 29 #[x.V] (fun m => CtM m x) [] (fun _ : Unit => .bool x.right) (fun _ _ => True) (fun _ => []) := by
  refine Ctr.mk fun w F m C hp => x_cont_Cont_right _ _ _ _ _ _ _ _ _ _ _ _ _ _ _ _ _ _ _ _ _ _ _ _ w _ fun w1 L2 h1 g1 => ?_
  have hl : x.rest.length * 48 ≤ 140737488355328 := hp.2
  have hd := x.id.2
  have e0 : IntKind.wrap .i64 ((IntKind.wrap .i64 (1 + ((x.rest.length : Nat) : Int))) + (IntKind.wrap .i64 x.id.1.d)) = 1 + (x.rest.length : Int) + x.id.1.d := by
    have h3 := hd.d
    rw [w_i64 (n := x.id.1.d) (by omega) (by omega), w_i64 (n := 1 + ((x.rest.length : Nat) : Int)) (by omega) (by omega), w_i64 (by omega) (by omega)]
  rw [e0]
  refine (C.hidL h1 g1).gives (c_Right x.id.1 x.id.2) fun w4 k4 C => ⟨_, rfl, k4, ?_⟩
  by_cases hr : x.id.1.right = true
  rotate_left
  · rw [if_neg (by simpa using hr)]
    exact Ctr.ret () (by rw [Ct.right, Bool.eq_false_iff.2 hr]; simp) trivial C
  rw [if_pos (by rw [hr]; rfl)]
  refine C.gives (c_PRight x.first) fun w7 k7 C => ⟨_, rfl, k7, ?_⟩
  by_cases hf : x.first.right = true
  rotate_left
  · rw [if_neg (by simpa using hf)]
    exact Ctr.ret () (by rw [Ct.right, Bool.eq_false_iff.2 hf]; simp) trivial C
  rw [if_pos (by rw [hf]; rfl)]
  refine (c_partRight x.q x.rest hl).call (As := []) C hp.1 fun _ m2 w10 hk hm _ C => ⟨_, rfl, hk, ?_⟩
  exact Ctr.ret () (by rw [Ct.right, hr, hf]; simp) trivial C
end Go.Proofs
namespace Go.Proofs
open Go X RowKit Go.Sort
def takeF (l : List (J × Ct)) (d : J) : Ct × Bool := if (fnd d l).isSome = true then (ctOf l d, true) else (Ct.zero, false)
def takeL (l : List (J × Ct)) (d : J) : List (J × Ct) := if (fnd d l).isSome = true then X.mdel d l else l
theorem c_Take (b mr : Nat) (g : Int) (l : List (J × Ct)) (d : J) : Ctr Try.prog 16 #[.pointer (some ⟨b, 0, none⟩), jV d] noMem [ctB b g mr, ctM mr l] (fun _ : Unit => .tuple #[(takeF l d).1.V, .bool (takeF l d).2]) (fun _ _ => True) (fun _ => [ctB b g mr, ctM mr (takeL l d)]) := by
  refine Ctr.mk fun w F m C _ => x_cont_Table_Take _ _ _ _ _ _ _ _ _ _ _ w _ fun w1 L2 h1 g1 => ?_
  refine (c_Has b mr g l d).call (As := []) (C.hidL h1 g1) trivial fun _ m1 w4 hk hm _ C => ⟨_, rfl, hk, ?_⟩
  by_cases hs : (fnd d l).isSome = true
  rotate_left
  · rw [if_pos (by simpa using hs)]
    intro w74 h74
    have e1 : takeF l d = (Ct.zero, false) := if_neg hs
    have e2 : takeL l d = l := if_neg hs
    refine Ctr.ret () (by rw [e1]; rfl) trivial (by rw [e2]; exact C.hid0 h74)
  have e1 : takeF l d = (ctOf l d, true) := if_pos hs
  have e2 : takeL l d = X.mdel d l := if_pos hs
  rw [if_neg (by simp [hs])]
  have hf : ∀ {w' L'} {As' : List Asn}, Ctx F m w w' L' m1 (ctB b g mr :: As') → FactsW [(⟨b, 1, none⟩, [.map (some mr)])] w' L' := fun C => C.blkFact1 1 _ rfl (facts_nil _ _)
  refine ⟨_, hf C, some mr, by simp [Addr.add_mid], fun w8 L9 h8 g8 => ?_, fun w8 L9 h8 g8 => ?_⟩
  all_goals
    replace C := C.hidL h8 g8
    refine ⟨_, _, _, _, _, _, _, _, _, _, _, _, _, _, _, _, _, _, _, _, _, _, _, _, w8, look_ct C.swap d, kept_refl _ _, hf C, _, hf C, some mr, by simp [Addr.add_mid], fun w37 L38 h37 g37 => ?_⟩
    replace C := C.hidL h37 g37
    obtain ⟨w39, hr, hk2, C2⟩ := Ctx.mdel (P := Try.prog) (ty := 0) t89 key53 C.swap d
    refine ⟨w39, hr, hk2, fun w40 h40 => ?_⟩
    exact Ctr.ret () (by rw [e1]) trivial (by rw [e2]; exact C2.swap.hid0 h40)
theorem child_in (x : J) (g : Int) (hg : 0 ≤ g ∧ g < 256) : (x.1.child g 0).1.In := by
  obtain ⟨x, h⟩ := x
  unfold I.child
  obtain ⟨h1, h2, h3, h4, h5, h6, h7, h8, h9, h10⟩ := h
  (repeat' split) <;> first | exact zero_in | (constructor <;> simp only <;> omega)
def chJ (x : J) (g : Int) (hg : 0 ≤ g ∧ g < 256) : J := ⟨(x.1.child g 0).1, child_in x g hg⟩
def zJ : J := ⟨I.zero, zero_in⟩
/-- what Add tells; is the continuation taken? -/
def addF (g : Int) (hg : 0 ≤ g ∧ g < 256) (l : List (J × Ct)) (x : Ct) : J × Int :=
  if x.right = true then
    (if (x.id.1.child g 0).2 = 0 then
      (if (fnd (chJ x.id g hg) l).isSome = true then (zJ, 4) else if 64 ≤ l.length then (zJ, 11) else (chJ x.id g hg, 0))
     else (zJ, (x.id.1.child g 0).2))
  else (zJ, 1)
def addL (g : Int) (hg : 0 ≤ g ∧ g < 256) (l : List (J × Ct)) (x : Ct) (q : Sl) : List (J × Ct) :=
  if (addF g hg l x).2 = 0 then X.mput (chJ x.id g hg) { x with q := q } l else l
theorem child_e (x : I) (g : Int) : (x.child g 0).2 = 0 ∨ (x.child g 0).2 = 1 ∨ (x.child g 0).2 = 18 := by
  unfold I.child; (repeat' split) <;> simp
theorem c_Add (b mr : Nat) (g : Int) (hg : 0 ≤ g ∧ g < 256) (l : List (J × Ct)) (hll : l.length ≤ 100000) (x : Ct) : Ctr Try.prog 8 #[.pointer (some ⟨b, 0, none⟩), x.V] (fun m => CtM m x) [ctB b g mr, ctM mr l] (fun q : Sl => .tuple #[jV (addF g hg l x).1, .int .i64 (addF g hg l x).2]) (fun q m => CtM m { x with q := q }) (fun q => [ctB b g mr, ctM mr (addL g hg l x q)]) := by
  refine Ctr.mk fun w F m C hp => x_cont_Table_Add _ _ _ _ _ _ _ _ _ _ _ _ _ _ _ _ _ _ _ _ _ _ _ _ _ w _ fun w1 L2 h1 g1 => ?_
  refine (c_none b g mr).call (As := [ctM mr l]) (C.hidL h1 g1) trivial fun _ m1 w4 hk hm _ C => ⟨_, rfl, hk, ?_⟩
  rw [if_pos (by rfl)]
  refine (c_ctRight x).call (As := [ctB b g mr, ctM mr l]) C ⟨hp.1.mono hm, hp.2⟩ fun _ m2 w8 hk hm2 _ C => ⟨_, rfl, hk, ?_⟩
  replace C : Ctx F m w w8 L2 m2 [ctB b g mr, ctM mr l] := C
  have hq : CtM m2 { x with q := x.q } := ⟨(hp.1.mono hm).mono hm2, hp.2⟩
  -- the ways on which nothing is put
  have out : ∀ {w' : World} {L' : List Nat} {m' : Mem} (e : Int), m2.le m' → e ≠ 0 → addF g hg l x = (zJ, e) → Ctx F m w w' L' m' [ctB b g mr, ctM mr l] → ∀ w9, Hid L' w' w9 →
      ∃ (i : Sl) (m' : Mem) (L : List Nat), Ending.returned (.tuple #[jV zJ, .int .i64 e]) = .returned (.tuple #[jV (addF g hg l x).1, .int .i64 (addF g hg l x).2]) ∧ CtM m' { x with q := i } ∧ Ctx F m w w9 L m' [ctB b g mr, ctM mr (addL g hg l x i)] := fun e hm' he ha D w9 h9 => by
    refine ⟨x.q, _, [], by rw [ha], ⟨hq.1.mono hm', hq.2⟩, ?_⟩
    have : addL g hg l x x.q = l := by rw [addL, ha, if_neg he]
    rw [this]; exact D.hid0 h9
  by_cases hr : x.right = true
  rotate_left
  · rw [if_pos (by simpa using hr)]
    exact out 1 (Mem.le_refl _) (by decide) (by rw [addF, if_neg hr]) C
  rw [if_neg (by simp [hr])]
  have hf : ∀ {w' L' m'} {As' : List Asn}, Ctx F m w w' L' m' (ctB b g mr :: As') → FactsW [(⟨b, 0, none⟩, [.int .u8 g])] w' L' := fun C => C.blkFact1 0 _ rfl (facts_nil _ _)
  refine ⟨_, hf C, g, by simp [Addr.add_mid], fun w12 L13 h12 g12 => ?_, fun w12 L13 h12 g12 => ?_⟩
  all_goals
    refine (C.hidL h12 g12).gives (c_Child x.id.1 x.id.2 g 0) fun w15 k15 C => ⟨_, _, _, _, _, _, _, _, _, _, _, rfl, k15, ?_⟩
    by_cases he : (x.id.1.child g 0).2 = 0
    rotate_left
    · rw [if_pos (by simpa using he)]
      exact out _ (Mem.le_refl _) he (by rw [addF, if_pos hr, if_neg he]) C
    rw [if_neg (by simpa using he)]
    intro w27 L28 h27 g27
    refine (c_Has b mr g l (chJ x.id g hg)).call (As := []) (C.hidL h27 g27) trivial fun _ m3 w30 hk hm3 _ C => ⟨_, rfl, hk, ?_⟩
    by_cases hs : (fnd (chJ x.id g hg) l).isSome = true
    · rw [if_pos hs]
      exact out 4 hm3 (by decide) (by rw [addF, if_pos hr, if_pos he, if_pos hs]) C
    rw [if_neg hs]
    refine ⟨some mr, by simpa [Addr.add_mid] using C.blkCell (j := 1) rfl, by exact C.blkAt.2, _, w30, Ctx.mlen (P := Try.prog) (ty := 3) t89 C.swap, kept_refl _ _, ?_⟩
    by_cases h64 : 64 ≤ l.length
    · rw [if_pos (by simpa using (by omega : (l.length : Int) ≥ 64))]
      exact out 11 hm3 (by decide) (by rw [addF, if_pos hr, if_pos he, if_neg hs, if_pos h64]) C
    rw [if_neg (by simpa using (by omega : ¬ (l.length : Int) ≥ 64))]
    have hf1 : ∀ {w' L' m'} {As' : List Asn}, Ctx F m w w' L' m' (ctB b g mr :: As') → FactsW [(⟨b, 1, none⟩, [.map (some mr)])] w' L' := fun C => C.blkFact1 1 _ rfl (facts_nil _ _)
    refine ⟨_, hf1 C, some mr, by simp [Addr.add_mid], fun w37 L38 h37 g37 => ?_⟩
    refine (c_clone x).call (As := [ctB b g mr, ctM mr l]) (C.hidL h37 g37) ⟨hq.1.mono hm3, hq.2⟩ fun q m4 w40 hk hm4 hq4 C => ⟨_, _, _, _, _, _, _, _, _, _, _, _, _, _, _, _, _, _, _, _, _, _, _, _, rfl, hk, ?_⟩
    replace C : Ctx F m w w40 L38 m4 [ctB b g mr, ctM mr l] := C
    obtain ⟨w65, hrun, hk65, C2⟩ := Ctx.mput (P := Try.prog) t89 key53 C.swap (chJ x.id g hg) { x with q := q }
    refine ⟨hf1 C, w65, hrun, hk65, fun w66 h66 => ?_⟩
    have ha : addF g hg l x = (chJ x.id g hg, 0) := by rw [addF, if_pos hr, if_pos he, if_neg hs, if_neg h64]
    have hl : addL g hg l x q = X.mput (chJ x.id g hg) { x with q := q } l := by rw [addL, ha, if_pos rfl]
    exact Ctr.ret q (by rw [ha]; rfl) hq4 (by rw [hl]; exact C2.swap.hid0 h66)
end Go.Proofs
namespace Go.Proofs
open Go X RowKit Go.Sort
def erP (y : J × Ct) : J × Ct := (y.1, y.2.er)
theorem fresh_key {zs ys : List ((J × Ct) × Nat)} {seen : Array Nat} (hw : Walked zs ys seen) (hnd : ((zs.map Prod.fst).map Prod.fst).Nodup) {i : Nat} (hi : i < zs.length) (hns : zs[i].2 ∉ seen) : zs[i].1.1 ∉ (ys.map Prod.fst).map Prod.fst := by
  intro hc
  obtain ⟨x, hx, he⟩ := List.mem_map.1 hc
  obtain ⟨y, hy, rfl⟩ := List.mem_map.1 hx
  have h1 : ∃ j, ∃ hj : j < zs.length, zs[j] = y := List.getElem_of_mem (hw.sub y hy)
  obtain ⟨j, hj, rfl⟩ := h1
  have : j = i := by
    have hj' : j < ((zs.map Prod.fst).map Prod.fst).length := by simpa using hj
    have hi' : i < ((zs.map Prod.fst).map Prod.fst).length := by simpa using hi
    exact (List.getElem_inj hnd (h₀ := hj') (h₁ := hi')).1 (by simpa using he)
  subst this
  refine hns ?_
  have : zs[j].2 ∈ ys.map Prod.snd := List.mem_map.2 ⟨_, hy, rfl⟩
  rw [hw.eq] at this
  simpa using this
theorem c_CloneT (b mr : Nat) (g : Int) (hg : g < 4) (l : List (J × Ct)) (hnd : (l.map Prod.fst).Nodup) : Ctr Try.prog 20 #[.pointer (some ⟨b, 0, none⟩)] (fun m => ∀ y ∈ l, CtM m y.2) [ctB b g mr, ctM mr l] (fun i : (Nat × Nat) × List (J × Ct) => .pointer (some ⟨i.1.1, 0, none⟩)) (fun i m => (i.2.map erP).Perm (l.map erP) ∧ ∀ y ∈ i.2, CtM m y.2) (fun i => [ctB i.1.1 g i.1.2, ctM i.1.2 i.2, ctB b g mr, ctM mr l]) := by
  refine Ctr.mk fun w F m C hpre => x_cont_Table_Clone _ w _ ?_
  refine (c_none b g mr).call (As := [ctM mr l]) C trivial fun _ m1 w2 hk hm _ C => ⟨_, rfl, hk.size, ?_⟩
  rw [if_neg (by decide)]
  refine ⟨g, by simpa [Addr.add_mid] using C.blkCell (j := 0) rfl, ?_⟩
  refine (c_New g hg).call (As := [ctB b g mr, ctM mr l]) C trivial fun i m2 w6 hk hm2 _ C => ⟨_, rfl, hk.size, ?_⟩
  obtain ⟨b', mr'⟩ := i
  replace C : Ctx F m w w6 [] m2 [ctB b' g mr', ctM mr' [], ctB b g mr, ctM mr l] := C
  refine ⟨some mr, by simpa [Addr.add_mid] using (C.pm [2, 0, 1, 3] rfl).blkCell (j := 1) rfl, ?_⟩
  obtain ⟨zs, clock, hzs, hnz, C⟩ := Ctx.mapZI (C.pm [3, 0, 1, 2] rfl)
  obtain ⟨hr, hk10, C1⟩ := C.mrange (P := Try.prog) t89
  refine ⟨_, _, hr, hk10.size, ?_⟩
  generalize hit : w6.heap.size = it at C1 ⊢
  refine ⟨fun w' L' => ∃ (seen : Array Nat) (last : Nat) (ys : List ((J × Ct) × Nat)) (m' : Mem) (l' : List (J × Ct)), clock ≤ last ∧ Walked zs ys seen ∧ m2.le m' ∧ l'.map erP = (ys.map Prod.fst).map erP ∧ (∀ y ∈ l', CtM m' y.2) ∧
    Ctx F m w w' [] m' [iterA it mr clock seen last, mapZ mr jV Ct.V zs clock, ctB b' g mr', ctM mr' l', ctB b g mr], fun w' => zs.length + 1 - seenN w' it,
    ⟨#[], clock, [], m2, [], Nat.le_refl _, Walked.nil _, Mem.le_refl _, rfl, by simp, C1⟩, ?_⟩
  clear C1 hr hk C hk10
  rintro w13 L14 _ ⟨seen, last, ys, m', l', hlast, hw, hm', her, hM, D⟩
  have hsz0 := seenN_obj D.objAt.1
  rcases Ctx.mnext (P := Try.prog) 0 rfl hlast D with ⟨hall, hnx⟩ | ⟨i, hi, w17, hns, hnx, hk9, D9⟩
  · refine ⟨false, [], w13, hnx, Nat.le_refl _, ?_⟩
    rw [if_neg (by decide)]
    have hp := hw.perm hnz hall
    rw [hzs] at hp
    have D2 := (D.pk [1, 2, 3, 4] [0] rfl).mapZA
    rw [hzs] at D2
    refine Ctr.ret (m' := m') (L := []) ((b', mr'), l') rfl ⟨?_, hM⟩ (D2.pm [1, 2, 3, 0] rfl)
    rw [her]; exact hp.map erP
  · refine ⟨true, [_, _], w17, hnx, hk9.size, ?_⟩
    rw [if_pos rfl]
    have hent := Ctx.mentry (P := Try.prog) hi D9
    refine ⟨_, _, _, _, _, _, _, _, _, _, _, _, _, _, _, _, _, _, _, _, _, _, _, _, _, _, _, _, _, _, _, _, _, _, w17, hent, Nat.le_refl _, ?_⟩
    have hf1 : ∀ {w' L' m'} {As' : List Asn}, Ctx F m w w' L' m' (ctB b' g mr' :: As') → FactsW [(⟨b', 1, none⟩, [.map (some mr')])] w' L' := fun C => C.blkFact1 1 _ rfl (facts_nil _ _)
    refine ⟨_, hf1 (D9.pm [2, 0, 1, 3, 4] rfl), ?_⟩
    rw [onSome_some]
    refine ⟨some mr', by simp [Addr.add_mid], fun w56 L57 h56 g56 => ?_⟩
    have hin : zs[i].1 ∈ l := by rw [← hzs]; exact List.mem_map.2 ⟨_, List.getElem_mem hi, rfl⟩
    have hc := hpre _ hin
    refine (c_clone zs[i].1.2).call (As := [iterA it mr clock (seen.push zs[i].2) clock, mapZ mr jV Ct.V zs clock, ctB b' g mr', ctM mr' l', ctB b g mr]) (D9.hidL h56 g56) ⟨hc.1.mono ((hm.le_trans hm2).le_trans hm'), hc.2⟩ fun q m4 w59 hk4 hm4 hq4 D => ⟨_, _, _, _, _, _, _, _, _, _, _, _, _, _, _, _, _, _, _, _, _, _, _, _, rfl, hk4, ?_⟩
    replace D : Ctx F m w w59 L57 m4 [iterA it mr clock (seen.push zs[i].2) clock, mapZ mr jV Ct.V zs clock, ctB b' g mr', ctM mr' l', ctB b g mr] := D
    obtain ⟨w84, hrun, hk84, C2⟩ := Ctx.mput (P := Try.prog) t89 key53 (D.pm [3, 0, 1, 2, 4] rfl) zs[i].1.1 { zs[i].1.2 with q := q }
    have D2 : Ctx F m w w84 L57 m4 [iterA it mr clock (seen.push zs[i].2) clock, mapZ mr jV Ct.V zs clock, ctB b' g mr', ctM mr' (X.mput zs[i].1.1 { zs[i].1.2 with q := q } l'), ctB b g mr] := C2.pm [1, 2, 3, 0, 4] rfl
    have hkeys : l'.map Prod.fst = (ys.map Prod.fst).map Prod.fst := by
      have := congrArg (List.map Prod.fst) her
      simpa [erP, Function.comp_def] using this
    have hnew : zs[i].1.1 ∉ l'.map (·.1) := by
      have h := fresh_key hw (by rw [hzs]; exact hnd) hi hns
      rw [← hkeys] at h; exact h
    rw [mput_out hnew] at D2
    have hw2 := hw.push hi hns
    have hc2 := hw2.len
    rw [Array.size_push] at hc2
    refine ⟨hf1 (D.pm [2, 0, 1, 3, 4] rfl), w84, hrun, hk84, ⟨_, clock, ys ++ [zs[i]], m4, _, Nat.le_refl _, hw2, hm'.le_trans hm4, ?_, ?_, D2.noL⟩, ?_⟩
    · simp [her, erP, Ct.er]
    · intro y hy
      rcases List.mem_append.1 hy with hy | hy
      · exact ⟨(hM y hy).1.mono hm4, (hM y hy).2⟩
      · simp only [List.mem_singleton] at hy; subst hy; exact hq4
    · have hsz1 := seenN_obj D2.objAt.1
      show zs.length + 1 - seenN w84 it + 1 ≤ zs.length + 1 - seenN w13 it
      rw [hsz1, hsz0, Array.size_push]; exact Nat.le_of_eq (by omega)
end Go.Proofs
namespace Go.Proofs
open Go X RowKit Go.Sort
/-! ### the document's table -/
theorem w1n (k : Nat) (hk : k ≤ 1000000) : IntKind.wrap .i64 ((k : Int) + 1) = ((k + 1 : Nat) : Int) := by rw [w_i64 (by omega) (by omega)]; omega
theorem cC_one (x : Ct) : ∀ u ∈ cC x, oneC u = true := by
  intro u hu
  have hu : u ∈ [Value.int .u8 x.id.1.n, .int .u16 x.id.1.l, .int .u32 x.id.1.s, .int .u8 x.id.1.d, .int .u8 x.id.1.g0, .int .u8 x.id.1.i0, .int .u8 x.id.1.g1, .int .u8 x.id.1.i1, .int .u8 x.id.1.g2, .int .u8 x.id.1.i2,
    .int .u8 x.first.g, .int .u8 x.first.k, .string x.first.key, .string x.first.val, .int .i64 x.first.n, slV x.q x.rest.length, .int .u8 x.rc, .string x.rv, .string x.ok, .string x.ov, .bool x.oh, .int .u32 x.floor] := hu
  simp only [List.mem_cons, List.not_mem_nil, or_false] at hu
  rcases hu with rfl | rfl | rfl | rfl | rfl | rfl | rfl | rfl | rfl | rfl | rfl | rfl | rfl | rfl | rfl | rfl | rfl | rfl | rfl | rfl | rfl | rfl <;> rfl
theorem cs_one (l : List Ct) : ∀ u ∈ l.flatMap cC, oneC u = true := flat_one cC_one l
abbrev tsA (p : Sl) (L : List Ct) : Asn := slA (slV p L.length) L.length (L.flatMap cC) 42 22
abbrev rtB (b : Nat) (g : Int) (L : List Ct) (p : Sl) : Asn := blk b [.int .u8 g, slV p L.length] 80
abbrev rtAs (b : Nat) (g : Int) (L : List Ct) (p : Sl) : List Asn := [rtB b g L p, tsA p L]
def rtA (b : Nat) (g : Int) (L : List Ct) : Asn := Asn.ex fun y : Sl => Asn.all (rtAs b g L y)
section
variable {F0 : List Nat} {m0 : Mem} {w0 w : World} {LL : List Nat} {m : Mem} {As : List Asn}
theorem rtO {b : Nat} {g : Int} {L : List Ct} (C : Ctx F0 m0 w0 w LL m (rtA b g L :: As)) : ∃ p, Ctx F0 m0 w0 w LL m (rtAs b g L p ++ As) := by
  obtain ⟨p, C⟩ := C.ex
  exact ⟨p, C.all⟩
theorem rtI {b : Nat} {g : Int} {L : List Ct} (p : Sl) (C : Ctx F0 m0 w0 w LL m (rtAs b g L p ++ As)) : Ctx F0 m0 w0 w LL m (rtA b g L :: As) := Ctx.exI p (Ctx.allI C)
theorem ts_elem {l : List Ct} {p : Sl} (C : Ctx F0 m0 w0 w LL m (tsA p l :: As)) {j : Nat} (hj : j < l.length) :
    ∃ a, p.1 = some a ∧ Cells w (a.add (j * 22)) (cC l[j]) ∧ (a.add (j * 22)).block ∉ LL := by
  have hc := C.slCells
  have hne : l.flatMap cC ≠ [] := fun e => by
    have := flat_len cC_len l
    rw [e] at this
    simp at this; omega
  cases hp : p.1 with
  | none => exact absurd (hc.2 hp) hne
  | some a =>
    obtain ⟨h1, h2⟩ := hc.1 a hp
    exact ⟨a, rfl, cells_elem cC_len h1 j hj, by rw [addr_block]; exact h2 hne⟩
theorem rcell {b : Nat} {g : Int} {L : List Ct} {p : Sl} (D : Ctx F0 m0 w0 w LL m (rtB b g L p :: As)) : w.cell? ((⟨b, 0, none⟩ : Addr).add 1) = some (slV p L.length) ∧ ¬ ((⟨b, 0, none⟩ : Addr).add 1).block ∈ LL :=
  ⟨by simpa [Addr.add_mid] using D.blkCell (j := 1) rfl, by rw [addr_block]; exact D.blkAt.2⟩
end
theorem c_rTChild (b : Nat) (g : Int) (L : List Ct) (p : Sl) (x : Ct) : Ctr Try.prog 15 #[.pointer (some ⟨b, 0, none⟩), x.V] noMem (rtAs b g L p) (fun _ : Unit => .tuple #[(x.id.1.child g 0).1.V, .int .i64 (x.id.1.child g 0).2]) (fun _ _ => True) (fun _ => rtAs b g L p) := by
  refine Ctr.mk fun w F m C _ => x_rTChild _ _ _ _ _ _ _ _ _ _ _ _ _ _ _ _ _ _ _ _ _ _ _ _ _ w _ ?_
  have hf : ∀ {w' L' m'} {As' : List Asn}, Ctx F m w w' L' m' (rtB b g L p :: As') → FactsW [(⟨b, 0, none⟩, [.int .u8 g])] w' L' := fun C => C.blkFact1 0 _ rfl (facts_nil _ _)
  refine ⟨_, hf C, g, by simp [Addr.add_mid], fun w3 L4 h3 g3 => ?_⟩
  refine (C.hidL h3 g3).gives (c_ref_Child x.id.1 x.id.2 g 0) fun w6 k6 C => ⟨_, _, _, _, _, _, _, _, _, _, _, rfl, k6, fun w18 h18 => ?_⟩
  exact Ctr.ret () rfl trivial (C.hid0 h18)
def isCh (g : Int) (d : J) (x : Ct) : Bool := ((x.id.1.child g 0).2 == 0) && decide ((x.id.1.child g 0).1 = d.1)
def findV (g : Int) (L : List Ct) (d : J) : Int := if L.findIdx (isCh g d) < L.length then (L.findIdx (isCh g d) : Int) else -1
theorem fi_eq {p : Ct → Bool} : ∀ (l : List Ct) (j : Nat), j ≤ l.length → (∀ i (hi : i < l.length), i < j → p l[i] = false) → (∀ h : j < l.length, p l[j] = true) → l.findIdx p = j
  | [], j, hj, _, _ => by simp at hj; subst hj; rfl
  | x :: l, 0, hj, h1, h2 => by
    have := h2 (by simp)
    rw [List.findIdx_cons]; simp at this; simp [this]
  | x :: l, j + 1, hj, h1, h2 => by
    have h0 := h1 0 (by simp) (by omega)
    rw [List.findIdx_cons]
    simp only [List.getElem_cons_zero] at h0
    rw [h0, fi_eq l j (by simpa using hj) (fun i hi hij => by have := h1 (i + 1) (by simpa using hi) (by omega); simpa using this) (fun h => by have := h2 (by simpa using h); simpa using this)]; rfl
theorem i_eq (x d : I) : (((x.n == d.n) && (x.l == d.l)) && ((x.s == d.s) && ((x.d == d.d) && (((x.g0 == d.g0) && (x.i0 == d.i0)) && (((x.g1 == d.g1) && (x.i1 == d.i1)) && ((x.g2 == d.g2) && (x.i2 == d.i2))))))) = decide (x = d) := by
  rw [Bool.eq_iff_iff, decide_eq_true_eq]
  simp only [Bool.and_eq_true, beq_iff_eq]
  constructor
  · rintro ⟨⟨h1, h2⟩, h3, h4, ⟨h5, h6⟩, ⟨h7, h8⟩, h9, h10⟩
    exact I.ext' ⟨h1, h2, h3, h4, h5, h6, h7, h8, h9, h10⟩
  · rintro rfl; exact ⟨⟨rfl, rfl⟩, rfl, rfl, ⟨rfl, rfl⟩, ⟨rfl, rfl⟩, rfl, rfl⟩
theorem c_rFind (b : Nat) (g : Int) (L : List Ct) (p : Sl) (d : J) (hll : L.length ≤ 100000) : Ctr Try.prog 26 #[.pointer (some ⟨b, 0, none⟩), jV d] noMem (rtAs b g L p) (fun _ : Unit => .int .i64 (findV g L d)) (fun _ _ => True) (fun _ => rtAs b g L p) := by
  refine Ctr.mk fun w F m C _ => x_rFind _ _ _ _ _ _ _ _ _ _ _ w _ fun w1' L2 h1 g1 => ?_
  replace C := C.hidL h1 g1
  refine ⟨fun n w' L' => ∃ (j : Nat) (m' : Mem), n = j ∧ j ≤ L.length ∧ (∀ i (hi : i < L.length), i < j → isCh g d L[i] = false) ∧ Ctx F m w w' L' m' (rtAs b g L p), fun n _ => (L.length - n).toNat, ⟨0, m, rfl, by omega, fun i hi h => by omega, C⟩, ?_⟩
  clear C h1 g1
  rintro n w6 L7 _ ⟨j, m', rfl, hj, hlt, D⟩
  refine ⟨p.1, L.length, p.2, (rcell D).1, (rcell D).2, ?_⟩
  by_cases hjl : j < L.length
  rotate_left
  · rw [if_neg (by simpa using hjl)]
    have : findV g L d = -1 := by
      rw [findV, fi_eq L j hj hlt (fun h => absurd h hjl), if_neg hjl]
    exact Ctr.ret () (by rw [this]) trivial D
  rw [if_pos (by simpa using hjl)]
  refine ⟨p.1, L.length, p.2, (rcell D).1, (rcell D).2, by omega, by simpa using hjl, ?_⟩
  obtain ⟨pa, hpa, hc, hcb⟩ := ts_elem (D.pm [1, 0] rfl) hjl
  rw [hpa, onSome_some]
  refine ⟨_, _, _, _, _, _, _, _, _, _, _, _, _, _, _, _, _, _, _, _, _, _, _, _, by rw [Int.toNat_natCast]; exact hc, by rw [Int.toNat_natCast]; exact hcb, ?_⟩
  refine (c_rTChild b g L p L[j]).call (As := []) D trivial fun _ m2 w40 hk hm _ D => ⟨_, _, _, _, _, _, _, _, _, _, _, rfl, hk, ?_⟩
  rw [i_eq]
  have e0 : (((L[j].id.1.child g 0).2 == 0) && decide ((L[j].id.1.child g 0).1 = d.1)) = isCh g d L[j] := rfl
  rw [e0]
  cases hc : isCh g d L[j] with
  | true =>
    rw [if_pos rfl]
    intro w54 h54
    have : findV g L d = j := by
      rw [findV, fi_eq L j hj hlt (fun h => hc), if_pos hjl]
    exact Ctr.ret () (by rw [this]) trivial (D.hid0 h54)
  | false =>
    rw [if_neg (by decide)]
    intro w52 L53 h52 g52
    refine ⟨rfl, ⟨j + 1, m2, w1n j (by omega), hjl, fun i hi hij => ?_, D.hidL h52 g52⟩, ?_⟩
    · by_cases hi2 : i = j
      · subst hi2; exact hc
      · exact hlt i hi (by omega)
    · rw [w1n j (by omega)]
      show ((L.length : Int) - ((j + 1 : Nat) : Int)).toNat + 1 ≤ ((L.length : Int) - (j : Int)).toNat
      omega
theorem c_rchild (b : Nat) (g : Int) (L : List Ct) (p : Sl) (j : Nat) (hj : j < L.length) : Ctr Try.prog 36 #[.pointer (some ⟨b, 0, none⟩), .int .i64 j] noMem (rtAs b g L p) (fun _ : Unit => (L[j].id.1.child g 0).1.V) (fun _ _ => True) (fun _ => rtAs b g L p) := by
  refine Ctr.mk fun w F m C _ => x_rchild _ _ w _ ?_
  refine ⟨p.1, L.length, p.2, (rcell C).1, by omega, by simpa using hj, ?_⟩
  obtain ⟨pa, hpa, hc, hcb⟩ := ts_elem (C.pm [1, 0] rfl) hj
  rw [hpa, onSome_some]
  refine ⟨_, _, _, _, _, _, _, _, _, _, _, _, _, _, _, _, _, _, _, _, _, _, _, _, by rw [Int.toNat_natCast]; exact hc, fun w29 L30 h29 g29 => ?_⟩
  refine (c_rTChild b g L p L[j]).call (As := []) (C.hidL h29 g29) trivial fun _ m2 w32 hk hm _ D => ⟨_, _, _, _, _, _, _, _, _, _, _, rfl, hk, fun w44 h44 => ?_⟩
  exact Ctr.ret () rfl trivial (D.hid0 h44)
end Go.Proofs
namespace Go.Proofs
open Go X RowKit Go.Sort
section
variable {F0 : List Nat} {m0 : Mem} {w0 w : World} {LL : List Nat} {m : Mem} {As : List Asn} {A0 : Asn}
theorem b78 : appB Try.prog 78 78 42 22 400 = true := by kernel_rfl
theorem app_take {p : Sl} {l out : List Ct} {q : Option Addr} {c : Nat} (hl : l.length ≤ 100000) (ho : out.length ≤ 100001) (k : Nat) (hk : k ≤ l.length) (c2 : Nat) (C : Ctx F0 m0 w0 w LL m (A0 :: tsA p l :: tsA (q, c) out :: As)) :
    ∃ q1 c1 w2, (Builtin.append_ #[78, 78] 78 #[.slice q out.length c, .slice (cutA p.1 p.2 0 22) k c2]).run Try.prog w = .ok (.slice q1 (out ++ l.take k).length c1) w2 ∧ Kept LL w w2 ∧ Ctx F0 m0 w0 w2 LL m (A0 :: tsA p l :: tsA (q1, c1) (out ++ l.take k) :: As) := by
  have hs := Ctx.srcTake C.swap k hk c2
  rw [flat_take cC_len] at hs
  obtain ⟨q1, c1, w2, hr, hkk, C2⟩ := Ctx.app (P := Try.prog) C.third 78 b78 hs (by omega) (cs_one _)
  have e1 : (out ++ l.take k).length = out.length + k := by rw [List.length_append, List.length_take]; omega
  have e2 : (out ++ l.take k).flatMap cC = out.flatMap cC ++ (l.take k).flatMap cC := by simp
  refine ⟨q1, c1, w2, by rw [e1]; exact hr, hkk, ?_⟩
  unfold tsA slV
  rw [e1, e2]
  exact C2.perm (List.Perm.trans (.swap ..) (List.Perm.cons _ (.swap ..)))
theorem app_drop {p : Sl} {l out : List Ct} {q : Option Addr} {c : Nat} (hl : l.length ≤ 100000) (ho : out.length ≤ 100001) (k : Nat) (hk : k ≤ l.length) (c2 : Nat) (C : Ctx F0 m0 w0 w LL m (A0 :: tsA p l :: tsA (q, c) out :: As)) :
    ∃ q1 c1 w2, (Builtin.append_ #[78, 78] 78 #[.slice q out.length c, .slice (cutA p.1 p.2 k 22) (l.length - k) c2]).run Try.prog w = .ok (.slice q1 (out ++ l.drop k).length c1) w2 ∧ Kept LL w w2 ∧ Ctx F0 m0 w0 w2 LL m (A0 :: tsA p l :: tsA (q1, c1) (out ++ l.drop k) :: As) := by
  have hs := Ctx.srcDrop C.swap k hk c2
  rw [flat_drop cC_len] at hs
  obtain ⟨q1, c1, w2, hr, hkk, C2⟩ := Ctx.app (P := Try.prog) C.third 78 b78 hs (by omega) (cs_one _)
  have e1 : (out ++ l.drop k).length = out.length + (l.length - k) := by rw [List.length_append, List.length_drop]
  have e2 : (out ++ l.drop k).flatMap cC = out.flatMap cC ++ (l.drop k).flatMap cC := by simp
  refine ⟨q1, c1, w2, by rw [e1]; exact hr, hkk, ?_⟩
  unfold tsA slV
  rw [e1, e2]
  exact C2.perm (List.Perm.trans (.swap ..) (List.Perm.cons _ (.swap ..)))
theorem app_one {out : List Ct} {q : Option Addr} {c : Nat} (x : Ct) {a1 : Nat} (ho : out.length ≤ 100001) (C : Ctx F0 m0 w0 w LL m (tsA (q, c) out :: As)) (hc : Cells w ⟨a1, 0, none⟩ (cC x)) :
    ∃ q1 c1 w2, (Builtin.append_ #[78, 78] 78 #[.slice q out.length c, .slice (some ⟨a1, 0, none⟩) 1 1]).run Try.prog w = .ok (.slice q1 (out ++ [x]).length c1) w2 ∧ Kept LL w w2 ∧ Ctx F0 m0 w0 w2 LL m (tsA (q1, c1) (out ++ [x]) :: As) := by
  obtain ⟨q1, c1, w2, hr, hkk, C2⟩ := Ctx.app (P := Try.prog) C 78 b78 (.some _ 1 1 (cC x) rfl hc) (by omega) (cC_one _)
  have e1 : (out ++ [x]).length = out.length + 1 := by simp
  have e2 : (out ++ [x]).flatMap cC = out.flatMap cC ++ cC x := by simp
  refine ⟨q1, c1, w2, by rw [e1]; exact hr, hkk, ?_⟩
  unfold tsA slV
  rw [e1, e2]
  exact C2
end
def rtakeF (g : Int) (L : List Ct) (d : J) : Ct × Bool := if h : L.findIdx (isCh g d) < L.length then (L[L.findIdx (isCh g d)], true) else (Ct.zero, false)
def rtakeL (g : Int) (L : List Ct) (d : J) : List Ct := if L.findIdx (isCh g d) < L.length then L.take (L.findIdx (isCh g d)) ++ L.drop (L.findIdx (isCh g d) + 1) else L
theorem c_rTake (b : Nat) (g : Int) (L : List Ct) (d : J) (hll : L.length ≤ 100000) : Ctr Try.prog 18 #[.pointer (some ⟨b, 0, none⟩), jV d] noMem [rtA b g L] (fun _ : Unit => .tuple #[(rtakeF g L d).1.V, .bool (rtakeF g L d).2]) (fun _ _ => True) (fun _ => [rtA b g (rtakeL g L d)]) := by
  refine Ctr.mk fun w F m C _ => x_rTake _ _ _ _ _ _ _ _ _ _ _ w _ fun w1' L2 h1 g1 => ?_
  obtain ⟨p, C⟩ := rtO C
  refine (c_rFind b g L p d hll).call (As := []) (C.hidL h1 g1) trivial fun _ m2 w4 hk hm _ C => ⟨_, rfl, hk, ?_⟩
  by_cases hkl : L.findIdx (isCh g d) < L.length
  rotate_left
  · rw [if_pos (by rw [findV, if_neg hkl]; decide)]
    have e : rtakeF g L d = (Ct.zero, false) := dif_neg hkl
    have e2 : rtakeL g L d = L := if_neg hkl
    intro w52 h52
    exact Ctr.ret () (by rw [e]; rfl) trivial (by rw [e2]; exact rtI p (C.hid0 h52))
  have hfv : findV g L d = (L.findIdx (isCh g d) : Int) := if_pos hkl
  have e : rtakeF g L d = (L[L.findIdx (isCh g d)], true) := dif_pos hkl
  have e2 : rtakeL g L d = L.take (L.findIdx (isCh g d)) ++ L.drop (L.findIdx (isCh g d) + 1) := if_pos hkl
  rw [hfv, if_neg (by simp), e, e2]
  generalize L.findIdx (isCh g d) = k at hkl hfv ⊢
  replace C : Ctx F m w w4 L2 m2 (rtAs b g L p) := C
  have hcap := (Ctx.slCap C.swap).1
  refine ⟨p.1, L.length, p.2, (rcell C).1, (rcell C).2, by omega, by omega, ?_⟩
  obtain ⟨pa, hpa, hc, hcb⟩ := ts_elem (C.pm [1, 0] rfl) hkl
  rw [hpa, onSome_some]
  refine ⟨_, _, _, _, _, _, _, _, _, _, _, _, _, _, _, _, _, _, _, _, _, _, _, _, by rw [Int.toNat_natCast]; exact hc, by rw [Int.toNat_natCast]; exact hcb, ?_⟩
  have hfw : ∀ {w' L' m'} {As : List Asn}, Ctx F m w w' L' m' (rtB b g L p :: As) → FactsW [(⟨b, 1, none⟩, [slV p L.length])] w' L' := fun C => C.blkFact1 1 _ rfl (facts_nil _ _)
  rw [w1n k (by omega)]
  refine ⟨_, hfw C, p.1, L.length, p.2, by simp [Addr.add_mid], by omega, by omega, p.1, L.length, p.2, by simp [Addr.add_mid], by omega, by omega, fun w14 L15 h14 g14 => ?_⟩
  rw [Int.toNat_natCast, Int.toNat_natCast]
  have D0 : Ctx F m w (w14.alloc (.cells #[] 42)) L15 m2 [rtB b g L p, tsA p L, tsA (some ⟨w14.heap.size, 0, none⟩, 0) []] :=
    (Ctx.slNil (q := some ⟨w14.heap.size, 0, none⟩) (ty := 42) (sz := 22) ((C.hidL h14 g14).newDrop [] 42)).perm ((List.Perm.swap ..).trans (List.Perm.cons _ (List.Perm.swap ..)))
  refine ⟨hfw D0, ?_⟩
  obtain ⟨q1, c1, w2, hr1, hk1, D1⟩ := app_take hll (by simp) k (by omega) p.2 D0
  have ek : p.2 - 0 = p.2 := rfl
  refine ⟨q1, _, c1, w2, hr1, hk1, hfw D1, ?_⟩
  rw [List.nil_append] at D1 ⊢
  obtain ⟨q2, c2, w3, hr2, hk2, D3⟩ := app_drop hll (by rw [List.length_take]; omega) (k + 1) (by omega) (p.2 - (k + 1)) D1
  refine ⟨q2, _, c2, w3, hr2, hk2, hfw D3, rfl, ?_⟩
  refine ⟨by simpa [Addr.add_mid] using D3.there 1 1 (by simp), by exact D3.blkAt.2, fun w51 h51 => ?_⟩
  have C2 := D3.store 1 [slV (q2, c2) (L.take k ++ L.drop (k + 1)).length] (by simp)
  exact Ctr.ret () rfl trivial (rtI (q2, c2) (Ctx.hid0 (C2.pk [0, 2] [1] rfl) (by simpa [Addr.add_mid] using h51)))
end Go.Proofs
namespace Go.Proofs
open Go X RowKit Go.Sort
/-- what the document's Add tells -/
def raddF (g : Int) (hg : 0 ≤ g ∧ g < 256) (L : List Ct) (x : Ct) : J × Int :=
  if x.right = true then
    (if (x.id.1.child g 0).2 = 0 then
      (if L.findIdx (isCh g (chJ x.id g hg)) < L.length then (zJ, 4) else if 64 ≤ L.length then (zJ, 11) else (chJ x.id g hg, 0))
     else (zJ, (x.id.1.child g 0).2))
  else (zJ, 1)
def notBef (g : Int) (d : J) (y : Ct) : Bool := !decide ((y.id.1.child g 0).1.num < d.1.num)
def insC (g : Int) (L : List Ct) (d : J) (x : Ct) : List Ct := (L.take (L.findIdx (notBef g d)) ++ [x]) ++ L.drop (L.findIdx (notBef g d))
def raddL (g : Int) (hg : 0 ≤ g ∧ g < 256) (L : List Ct) (x : Ct) : List Ct := if (raddF g hg L x).2 = 0 then insC g L (chJ x.id g hg) x else L
def CtIn (x : Ct) : Prop := 0 ≤ x.first.k ∧ ∀ p ∈ x.rest, 0 ≤ p.k
theorem c_rAdd (b : Nat) (g : Int) (hg : 0 ≤ g ∧ g < 256) (L : List Ct) (hll : L.length ≤ 100000) (x : Ct) (hx : CtIn x) : Ctr Try.prog 10 #[.pointer (some ⟨b, 0, none⟩), x.V] (fun m => CtM m x) [rtA b g L] (fun _ : Unit => .tuple #[jV (raddF g hg L x).1, .int .i64 (raddF g hg L x).2]) (fun _ _ => True) (fun _ => [rtA b g (raddL g hg L x)]) := by
  refine Ctr.mk fun w F m C hp => x_rAdd _ _ _ _ _ _ _ _ _ _ _ _ _ _ _ _ _ _ _ _ _ _ _ _ _ w _ fun w1 L2 h1 g1 => ?_
  replace C := C.hidL h1 g1
  have hl : x.rest.length * 48 ≤ 140737488355328 := hp.2
  have hd := x.id.2
  have e0 : IntKind.wrap .i64 ((IntKind.wrap .i64 (1 + ((x.rest.length : Nat) : Int))) + (IntKind.wrap .i64 x.id.1.d)) = 1 + (x.rest.length : Int) + x.id.1.d := by
    have h3 := hd.d
    rw [w_i64 (n := x.id.1.d) (by omega) (by omega), w_i64 (n := 1 + ((x.rest.length : Nat) : Int)) (by omega) (by omega), w_i64 (by omega) (by omega)]
  have out : ∀ {w' : World} {L' : List Nat} {m' : Mem} (e : Int), e ≠ 0 → raddF g hg L x = (zJ, e) → Ctx F m w w' L' m' [rtA b g L] → ∀ w9, Hid L' w' w9 →
      ∃ (i : Unit) (m' : Mem) (LL : List Nat), Ending.returned (.tuple #[jV zJ, .int .i64 e]) = .returned (.tuple #[jV (raddF g hg L x).1, .int .i64 (raddF g hg L x).2]) ∧ True ∧ Ctx F m w w9 LL m' [rtA b g (raddL g hg L x)] := fun {w' L' m'} e he ha D w9 h9 => by
    refine ⟨(), m', [], by rw [ha], trivial, ?_⟩
    have : raddL g hg L x = L := by rw [raddL, ha, if_neg he]
    rw [this]; exact D.hid0 h9
  have nr : ∀ {b : Bool}, b = false → x.right = b → raddF g hg L x = (zJ, 1) := fun hb h => by rw [raddF, if_neg (by rw [h, hb]; decide)]
  refine C.gives (c_ref_Right x.id.1 x.id.2) fun w4 k4 C => ⟨_, rfl, k4, ?_⟩
  by_cases hr : x.id.1.right = true
  rotate_left
  · rw [if_neg (by simpa using hr)]
    exact out 1 (by decide) (nr rfl (by rw [Ct.right, Bool.eq_false_iff.2 hr]; simp)) C
  rw [if_pos (by rw [hr]; rfl)]
  refine C.gives (c_r3Right x.first hx.1) fun w8 k8 C => ⟨_, rfl, k8, ?_⟩
  by_cases hf : x.first.right = true
  rotate_left
  · rw [if_neg (by simpa using hf)]
    exact out 1 (by decide) (nr rfl (by rw [Ct.right, Bool.eq_false_iff.2 hf]; simp)) C
  rw [if_pos (by rw [hf]; rfl)]
  refine (c_r3RightAll x.q x.rest hl hx.2).call (As := [rtA b g L]) C hp.1 fun _ m2 w12 hk hm _ C => ⟨_, rfl, hk, ?_⟩
  rw [e0]
  by_cases hrr : x.right = true
  rotate_left
  · rw [if_pos]
    · exact out 1 (by decide) (nr rfl (Bool.eq_false_iff.2 hrr)) C
    · rw [Ct.right, hr, hf] at hrr
      by_cases hl1 : rightL x.rest = true
      · rw [hl1] at hrr ⊢; simp at hrr ⊢; omega
      · simp [hl1]
  rw [if_neg]
  rotate_left
  · rw [Ct.right, hr, hf] at hrr
    simp only [Bool.true_and, Bool.and_eq_true, decide_eq_true_eq] at hrr
    rw [hrr.1]; simp; omega
  obtain ⟨p, C⟩ := rtO C
  refine (c_rTChild b g L p x).call (As := []) C trivial fun _ m3 w15 hk hm3 _ C => ⟨_, _, _, _, _, _, _, _, _, _, _, rfl, hk, ?_⟩
  replace C := rtI p C
  by_cases he : (x.id.1.child g 0).2 = 0
  rotate_left
  · rw [if_pos (by simpa using he)]
    exact out _ he (by rw [raddF, if_pos hrr, if_neg he]) C
  rw [if_neg (by simpa using he)]
  intro w27 L28 h27 g27
  obtain ⟨p, C⟩ := rtO C
  refine (c_rFind b g L p (chJ x.id g hg) hll).call (As := []) (C.hidL h27 g27) trivial fun _ m4 w30 hk hm4 _ C => ⟨_, rfl, hk, ?_⟩
  replace C := rtI p C
  by_cases hs : L.findIdx (isCh g (chJ x.id g hg)) < L.length
  · rw [if_pos (by rw [findV, if_pos hs]; simp)]
    exact out 4 (by decide) (by rw [raddF, if_pos hrr, if_pos he, if_pos hs]) C
  rw [if_neg (by rw [findV, if_neg hs]; decide)]
  obtain ⟨p, C⟩ := rtO C
  refine ⟨p.1, L.length, p.2, (rcell C).1, (rcell C).2, ?_⟩
  by_cases h64 : 64 ≤ L.length
  · rw [if_pos (by simpa using (by omega : (L.length : Int) ≥ 64))]
    exact out 11 (by decide) (by rw [raddF, if_pos hrr, if_pos he, if_neg hs, if_pos h64]) (rtI p C)
  rw [if_neg (by simpa using (by omega : ¬ (L.length : Int) ≥ 64))]
  have ha : raddF g hg L x = (chJ x.id g hg, 0) := by rw [raddF, if_pos hrr, if_pos he, if_neg hs, if_neg h64]
  have hL : raddL g hg L x = insC g L (chJ x.id g hg) x := by rw [raddL, ha, if_pos rfl]
  have hdn : (chJ x.id g hg).1 = (x.id.1.child g 0).1 := rfl
  refine ⟨fun n w' L' => ∃ m' : Mem, n = (L.findIdx (notBef g (chJ x.id g hg)) : Int) ∧ Ctx F m w w' L' m' [rtA b g L], ?_, ?_⟩
  · refine ⟨fun n w' L' => ∃ (j : Nat) (m' : Mem), n = j ∧ j ≤ L.length ∧ (∀ i (hi : i < L.length), i < j → notBef g (chJ x.id g hg) L[i] = false) ∧ Ctx F m w w' L' m' [rtA b g L], fun n _ => (L.length - n).toNat, ⟨0, m4, rfl, by omega, fun i hi h => by omega, rtI p C⟩, ?_⟩
    clear C
    rintro n w39 L40 _ ⟨j, m', rfl, hj, hlt, D⟩
    refine ⟨fun bo w' L' => ∃ m' : Mem, (bo = true → j < L.length ∧ ∀ h : j < L.length, notBef g (chJ x.id g hg) L[j] = false) ∧ (bo = false → ∀ h : j < L.length, notBef g (chJ x.id g hg) L[j] = true) ∧ Ctx F m w w' L' m' [rtA b g L], ?_, ?_⟩
    · obtain ⟨p, D⟩ := rtO D
      have hfw : ∀ {w' L' m'} {As : List Asn}, Ctx F m w w' L' m' (rtB b g L p :: As) → FactsW [(⟨b, 1, none⟩, [slV p L.length])] w' L' := fun C => C.blkFact1 1 _ rfl (facts_nil _ _)
      refine ⟨[(⟨b, 1, none⟩, [slV p L.length])], hfw D, p.1, L.length, p.2, by simp [Addr.add_mid], ?_⟩
      by_cases hjl : j < L.length
      rotate_left
      · rw [if_neg (by simpa using hjl)]
        intro w46 L47 h46 g46
        exact ⟨rfl, rfl, rfl, m', (fun h => by cases h), (fun _ h => absurd h hjl), rtI p (D.hidL h46 g46)⟩
      rw [if_pos (by simpa using hjl)]
      intro w48 L49 h48 g48
      refine (c_rchild b g L p j hjl).call (As := []) (D.hidL h48 g48) trivial fun _ m6 w51 hk6 hm6 _ D => ⟨_, _, _, _, _, _, _, _, _, _, rfl, hk6, hfw D, ?_⟩
      refine D.gives (c_ref_Compare (L[j].id.1.child g 0).1 (chJ x.id g hg).1 (child_in L[j].id g hg) (child_in x.id g hg)) fun w63 k63 D => ⟨_, rfl, k63, hfw D, rfl, rfl, rfl, m6, ?_, ?_, rtI p D⟩
      · intro hc
        refine ⟨hjl, fun _ => ?_⟩
        rw [cmp_num _ (chJ x.id g hg).1 (child_in L[j].id g hg) (chJ x.id g hg).2] at hc
        rw [notBef]
        have : (L[j].id.1.child g 0).1.num < (chJ x.id g hg).1.num := by
          rcases Int.lt_or_le (L[j].id.1.child g 0).1.num (chJ x.id g hg).1.num with h | h
          · exact h
          · exfalso
            have : ¬ cmp2 (L[j].id.1.child g 0).1.num (chJ x.id g hg).1.num < 0 := by unfold cmp2; rw [if_neg (by omega)]; split <;> omega
            simp [this] at hc
        simp [this]
      · intro hc _
        rw [cmp_num _ (chJ x.id g hg).1 (child_in L[j].id g hg) (chJ x.id g hg).2] at hc
        rw [notBef]
        have : ¬ (L[j].id.1.child g 0).1.num < (chJ x.id g hg).1.num := fun h => by
          rw [cmp2_lt h] at hc; simp at hc
        simp [this]
    · rintro bo w66 L67 _ ⟨m5, hb1, hb2, D⟩
      cases bo with
      | true =>
        rw [if_pos rfl]
        obtain ⟨hjl, hn⟩ := hb1 rfl
        refine ⟨rfl, rfl, rfl, ⟨j + 1, m5, w1n j (by omega), hjl, fun i hi hij => ?_, D⟩, ?_⟩
        · by_cases hi2 : i = j
          · subst hi2; exact hn hjl
          · exact hlt i hi (by omega)
        · rw [w1n j (by omega)]
          show ((L.length : Int) - ((j + 1 : Nat) : Int)).toNat + 1 ≤ ((L.length : Int) - (j : Int)).toNat
          omega
      | false =>
        rw [if_neg (by decide)]
        exact ⟨rfl, rfl, rfl, m5, by rw [fi_eq L j hj hlt (fun h => hb2 rfl h)], D⟩
  clear C
  rintro n w69 L70 _ ⟨m5, rfl, C⟩
  rw [ha, hL]
  have hkl : L.findIdx (notBef g (chJ x.id g hg)) ≤ L.length := List.findIdx_le_length
  rw [insC]
  generalize hk0 : L.findIdx (notBef g (chJ x.id g hg)) = k at hkl ⊢
  obtain ⟨p, C⟩ := rtO C
  replace C : Ctx F m w w69 L70 m5 (rtAs b g L p) := C
  have hcap := (Ctx.slCap C.swap).1
  have hfw : ∀ {w' L' m'} {As : List Asn}, Ctx F m w w' L' m' (rtB b g L p :: As) → FactsW [(⟨b, 1, none⟩, [slV p L.length])] w' L' := fun C => C.blkFact1 1 _ rfl (facts_nil _ _)
  refine ⟨_, hfw C, p.1, L.length, p.2, by simp [Addr.add_mid], by omega, by omega, p.1, L.length, p.2, by simp [Addr.add_mid], by omega, by omega, ?_⟩
  rw [Int.toNat_natCast]
  have fin : ∀ {w' : World} {L' : List Nat} {As : List Asn} {q1 : Option Addr} {c1 : Nat}, Ctx F m w w' L' m5 (rtB b g L p :: tsA p L :: tsA (q1, c1) ((L.take k ++ [x]) ++ L.drop k) :: As) →
      FactsW [(⟨b, 1, none⟩, [slV p L.length])] w' L' ∧ ((none : Option Nat) = none) ∧ World.there w' b (0 + 1) 1 ∧ (¬ b ∈ L') ∧
        ∀ w9, Hid L' (w'.setCells b (0 + 1) [.slice q1 ((L.take k ++ [x]) ++ L.drop k).length c1]) w9 → ∃ i : Unit, ∃ m' LL, (Ending.returned (.tuple #[jV (chJ x.id g hg), .int .i64 0]) = .returned (.tuple #[jV (chJ x.id g hg), .int .i64 0])) ∧ True ∧ Ctx F m w w9 LL m' [rtA b g ((L.take k ++ [x]) ++ L.drop k)] := by
    intro w' L' As q1 c1 C
    refine ⟨hfw C, rfl, C.there _ _ (by simp), C.blkAt.2, fun w9 h9 => ⟨(), m5, [], rfl, trivial, ?_⟩⟩
    have C2 := C.store 1 [slV (q1, c1) ((L.take k ++ [x]) ++ L.drop k).length] (by simp)
    refine rtI (q1, c1) ?_
    have C3 : Ctx F m w _ L' m5 ([_, tsA (q1, c1) ((L.take k ++ [x]) ++ L.drop k)] ++ (tsA p L :: As)) := C2.perm (List.Perm.cons _ (List.Perm.swap ..))
    exact C3.left.hid0 h9
  have hl0 : ∀ (a0 : Nat) {w' L'} {As : List Asn}, Ctx F m w w' L' m5 (rtB b g L p :: tsA p L :: As) → Ctx F m w w' L' m5 (rtB b g L p :: tsA p L :: tsA (some ⟨a0, 0, none⟩, 0) [] :: As) := fun a0 {w' L' As} C =>
    (Ctx.slNil (q := some ⟨a0, 0, none⟩) (ty := 42) (sz := 22) C).perm ((List.Perm.swap ..).trans (List.Perm.cons _ (List.Perm.swap ..)))
  have hrow : ∀ {w' L'} {As : List Asn}, Ctx F m w w' L' m5 (rtB b g L p :: tsA p L :: As) → Ctx F m w (w'.alloc (.cells (cC x).toArray 42)) L' m5 (rtB b g L p :: tsA p L :: (As ++ [blk w'.heap.size (cC x) 42])) := fun C => (C.alloc (cC x) 42).rot
  have hrc : ∀ {w' L'} {a1 : Nat} {As : List Asn}, Ctx F m w w' L' m5 (As ++ [blk a1 (cC x) 42]) → Cells w' ⟨a1, 0, none⟩ (cC x) := fun C => (C.perm List.perm_append_comm).blkCells (o := 0) fun j v e => by simpa using e
  have one : ∀ {w' L'} {q : Option Addr} {c a1 : Nat} {out : List Ct} {As : List Asn}, out.length ≤ 100001 → Ctx F m w w' L' m5 (rtB b g L p :: tsA p L :: tsA (q, c) out :: As) → Cells w' ⟨a1, 0, none⟩ (cC x) →
      ∃ q1 c1 w2, (Builtin.append_ #[78, 78] 78 #[.slice q out.length c, .slice (some ⟨a1, 0, none⟩) 1 1]).run Try.prog w' = .ok (.slice q1 (out ++ [x]).length c1) w2 ∧ Kept L' w' w2 ∧ Ctx F m w w2 L' m5 (rtB b g L p :: tsA p L :: tsA (q1, c1) (out ++ [x]) :: As) := by
    intro w' L' q c a1 out As ho C hc
    obtain ⟨q1, c1, w2, h1, h2, C2⟩ := app_one x ho C.third hc
    exact ⟨q1, c1, w2, h1, h2, C2.perm (List.Perm.trans (.swap ..) (List.Perm.cons _ (.swap ..)))⟩
  have htl : (L.take k).length ≤ 100001 := by rw [List.length_take]; omega
  have htl2 : (L.take k ++ [x]).length ≤ 100001 := by rw [List.length_append, List.length_take]; simp; omega
  refine ⟨fun w67 L68 h67 g67 => ?_, fun w93 L94 h93 g93 => ?_⟩
  · have D0 := hl0 w67.heap.size ((C.hidL h67 g67).newDrop [] 42)
    refine ⟨hfw D0, ?_, ?_⟩
    · obtain ⟨q1, c1, w2, hr1, hk1, D1⟩ := app_take hll (by simp) k hkl p.2 D0
      refine ⟨q1, _, c1, w2, hr1, hk1, hfw D1, ?_⟩
      have D2 := hrow D1
      refine ⟨hfw D2, ?_⟩
      rw [List.nil_append] at D2 ⊢
      obtain ⟨q2, c2, w3, hr2, hk2, D3⟩ := one htl D2 (hrc (As := [_, _, _]) D2)
      refine ⟨q2, _, c2, w3, hr2, hk2, hfw D3, ?_⟩
      obtain ⟨q3, c3, w4, hr3, hk3, D4⟩ := app_drop hll htl2 k hkl (p.2 - k) D3
      exact ⟨q3, _, c3, w4, hr3, hk3, fin D4⟩
    · have D2 := hrow D0
      refine ⟨hfw D2, ?_⟩
      obtain ⟨q1, c1, w2, hr1, hk1, D1⟩ := app_take hll (by simp) k hkl p.2 D2
      refine ⟨q1, _, c1, w2, hr1, hk1, hfw D1, ?_⟩
      rw [List.nil_append] at D1 ⊢
      obtain ⟨q2, c2, w3, hr2, hk2, D3⟩ := one htl D1 (hrc (As := [_, _, _]) D1)
      refine ⟨q2, _, c2, w3, hr2, hk2, hfw D3, ?_⟩
      obtain ⟨q3, c3, w4, hr3, hk3, D4⟩ := app_drop hll htl2 k hkl (p.2 - k) D3
      exact ⟨q3, _, c3, w4, hr3, hk3, fin D4⟩
  · have D2 := hrow (C.hidL h93 g93)
    refine ⟨hfw D2, ?_⟩
    have D0 := hl0 (w93.alloc (.cells (cC x).toArray 42)).heap.size (D2.newDrop [] 42)
    refine ⟨hfw D0, ?_⟩
    obtain ⟨q1, c1, w2, hr1, hk1, D1⟩ := app_take hll (by simp) k hkl p.2 D0
    refine ⟨q1, _, c1, w2, hr1, hk1, hfw D1, ?_⟩
    rw [List.nil_append] at D1 ⊢
    obtain ⟨q2, c2, w3, hr2, hk2, D3⟩ := one htl D1 (hrc (As := [_, _, _]) D1)
    refine ⟨q2, _, c2, w3, hr2, hk2, hfw D3, ?_⟩
    obtain ⟨q3, c3, w4, hr3, hk3, D4⟩ := app_drop hll htl2 k hkl (p.2 - k) D3
    exact ⟨q3, _, c3, w4, hr3, hk3, fin D4⟩
end Go.Proofs
