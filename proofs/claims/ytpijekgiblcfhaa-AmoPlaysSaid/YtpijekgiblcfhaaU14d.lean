import Derived.Test.YtpijekgiblcfhaaU14c
import Derived.Test.YtpijekgiblcfhaaXElems
set_option linter.unusedVariables false
set_option linter.unusedSimpArgs false
set_option maxRecDepth 10000
namespace Go.Proofs
open Go X RowKit
structure Ac where (kd : Int) (d : I) (c : Int) (v : ByteArray) (nn : Int)
@[reducible] def Ac.row (a : Ac) : List Value := [.int .i64 a.kd, .int .u8 a.d.n, .int .u16 a.d.l, .int .u32 a.d.s, .int .u8 a.d.d, .int .u8 a.d.g0, .int .u8 a.d.i0, .int .u8 a.d.g1, .int .u8 a.d.i1, .int .u8 a.d.g2, .int .u8 a.d.i2, .int .u8 a.c, .string a.v, .int .u32 a.nn]
abbrev Ac.V (a : Ac) : Value := .agg a.row.toArray
theorem ac_len (a : Ac) : a.row.length = 14 := rfl
@[reducible] def I.row (x : I) : List Value := [.int .u8 x.n, .int .u16 x.l, .int .u32 x.s, .int .u8 x.d, .int .u8 x.g0, .int .u8 x.i0, .int .u8 x.g1, .int .u8 x.i1, .int .u8 x.g2, .int .u8 x.i2]
theorem i_len (a : I) : a.row.length = 10 := rfl
/-! ### what it says -/
def doF (t : Tb) (a : Ac) : Bool × Tb :=
  if a.kd = 0 ∨ a.kd = 1 ∨ a.kd = 2 then ((beginF t a.d).1 == 0, (beginF t a.d).2)
  else if a.kd = 3 ∨ a.kd = 4 then (false, (endF t a.d a.c a.v).2)
  else if a.kd = 5 then (false, raiseF t (a.d.n, a.d.l) a.nn)
  else (false, t)
def Once (t : Tb) (B : List I) : Prop := ∀ d ∈ B, (fnd d t.R).isSome = true ∨ oldF t.Fl d = true
section
variable {α β : Type} [DecidableEq α]
theorem fnd_mdel_ne {x y : α} (h : y ≠ x) : ∀ {l : List (α × β)}, fnd y (X.mdel x l) = fnd y l
  | [] => rfl
  | (a, b) :: l => by
    have ih := fnd_mdel_ne h (l := l)
    by_cases hx : x = a
    · subst hx
      simp [X.mdel, fnd, h]
    · by_cases hy : y = a
      · subst hy; simp [X.mdel, fnd, hx]
      · simp [X.mdel, fnd, hx, hy, ih]
theorem mem_fnd {x : α} {v : β} : ∀ {l : List (α × β)}, (x, v) ∈ l → (fnd x l).isSome = true := fun {l} h => by
  cases hf : fnd x l with
  | some _ => rfl
  | none => exact absurd (List.mem_map.2 ⟨_, h, rfl⟩) (fnd_none.1 hf)
end
theorem floor_mput {p : Int × Int} {n : Int} {Fl : List ((Int × Int) × Int)} (h : n > floorF Fl p) (q : Int × Int) : floorF Fl q ≤ floorF (X.mput p n Fl) q := by
  rw [floorF, floorF, fnd_mput]
  by_cases hq : q = p
  · subst hq; rw [if_pos rfl]; rw [floorF] at h; exact Int.le_of_lt h
  · rw [if_neg hq]; exact Int.le_refl _
theorem old_up {Fl Fl' : List ((Int × Int) × Int)} (h : ∀ q, floorF Fl q ≤ floorF Fl' q) {d : I} (ho : oldF Fl d = true) : oldF Fl' d = true := by
  simp only [oldF, Bool.and_eq_true, decide_eq_true_eq] at ho ⊢
  exact ⟨ho.1, Int.le_trans ho.2 (h _)⟩
theorem begin_zero {t : Tb} {d : I} (h : (beginF t d).1 = 0) : stateF t d = 0 ∧ (beginF t d).2 = { t with R := X.mput d (Rw.fresh d) t.R } := by
  rw [beginF] at h ⊢
  by_cases hr : d.right = true
  · rw [if_pos hr] at h ⊢
    by_cases h3 : stateF t d = 3
    · rw [if_pos h3] at h; simp at h
    rw [if_neg h3] at h ⊢
    by_cases h4 : stateF t d = 4
    · rw [if_pos h4] at h; simp at h
    rw [if_neg h4] at h ⊢
    by_cases h0 : stateF t d = 0
    · rw [if_pos h0]; exact ⟨h0, rfl⟩
    · rw [if_neg h0] at h; simp at h
  · rw [if_neg hr] at h; simp at h
theorem begin_other {t : Tb} {d : I} (h : ¬ (beginF t d).1 = 0) : (beginF t d).2 = t := by
  rw [beginF] at h ⊢
  by_cases hr : d.right = true
  · rw [if_pos hr] at h ⊢
    by_cases h3 : stateF t d = 3
    · rw [if_pos h3]
    rw [if_neg h3] at h ⊢
    by_cases h4 : stateF t d = 4
    · rw [if_pos h4]
    rw [if_neg h4] at h ⊢
    by_cases h0 : stateF t d = 0
    · rw [if_pos h0] at h; simp at h
    · rw [if_neg h0]
  · rw [if_neg hr]
theorem state_zero {t : Tb} {d : I} (h : stateF t d = 0) : fnd d t.R = none ∧ oldF t.Fl d = false := by
  rw [stateF] at h
  cases hf : fnd d t.R with
  | some r => rw [hf] at h; simp only at h; split at h <;> simp at h
  | none =>
    rw [hf] at h; simp only at h
    cases ho : oldF t.Fl d with
    | true => rw [ho] at h; simp at h
    | false => exact ⟨rfl, rfl⟩
theorem Once.act {t : Tb} {B : List I} (h : Once t B) (a : Ac) : Once (doF t a).2 B ∧ ((doF t a).1 = true → a.d ∉ B ∧ Once (doF t a).2 (B ++ [a.d])) := by
  rw [doF]
  by_cases k0 : a.kd = 0 ∨ a.kd = 1 ∨ a.kd = 2
  · rw [if_pos k0]
    by_cases hb : (beginF t a.d).1 = 0
    · obtain ⟨h0, e⟩ := begin_zero hb
      obtain ⟨hf, ho⟩ := state_zero h0
      simp only [e]
      have h1 : Once { t with R := X.mput a.d (Rw.fresh a.d) t.R } B := fun d hd => by
        rcases h d hd with h | h
        · left; simp only [fnd_mput]; split
          · rfl
          · exact h
        · exact .inr h
      refine ⟨h1, fun _ => ⟨fun hm => ?_, fun d hd => ?_⟩⟩
      · rcases h _ hm with h | h
        · rw [hf] at h; simp at h
        · rw [ho] at h; simp at h
      · rcases List.mem_append.1 hd with hd | hd
        · exact h1 d hd
        · simp only [List.mem_singleton] at hd; subst hd
          left; simp only [fnd_mput, if_true]; rfl
    · refine ⟨by simp only [begin_other hb]; exact h, fun hc => absurd (by simpa using hc) hb⟩
  rw [if_neg k0]
  by_cases k3 : a.kd = 3 ∨ a.kd = 4
  · rw [if_pos k3]
    refine ⟨?_, by simp⟩
    rw [endF]
    by_cases hs : stateF t a.d = 1
    · rw [if_pos hs]
      by_cases ho : oldF t.Fl a.d = true
      · rw [if_pos ho]
        intro d hd
        by_cases hda : d = a.d
        · subst hda; exact .inr ho
        · rcases h d hd with h | h
          · left; simp only [fnd_mdel_ne hda]; exact h
          · exact .inr h
      · rw [if_neg ho]
        intro d hd
        rcases h d hd with h | h
        · left; simp only [fnd_mput]; split
          · rfl
          · exact h
        · exact .inr h
    · rw [if_neg hs]; exact h
  rw [if_neg k3]
  by_cases k5 : a.kd = 5
  · rw [if_pos k5]
    refine ⟨?_, by simp⟩
    simp only
    rw [raiseF]
    split
    · rename_i hr
      simp only [Bool.and_eq_true, decide_eq_true_eq] at hr
      have hup := floor_mput hr.2
      intro d hd
      rcases h d hd with h | h
      · cases hf : fnd d t.R with
        | none => rw [hf] at h; simp at h
        | some r =>
          by_cases hp : pastF (X.mput (a.d.n, a.d.l) a.nn t.Fl) (a.d.n, a.d.l) d r = true
          · right
            simp only [pastF, Bool.and_eq_true] at hp
            exact hp.2
          · left
            exact mem_fnd (List.mem_filter.2 ⟨fnd_mem hf, by simpa using hp⟩)
      · exact .inr (old_up hup h)
    · exact h
  · rw [if_neg k5]; exact ⟨h, by simp⟩
/-! ### what the code does -/
theorem c_light (l : List Ac) (q : Option Addr) (c : Nat) :
    Ctr Try.prog 8 #[.slice q l.length c] (fun m => MSrc m 14 (.slice q l.length c) l.length (l.flatMap Ac.row)) [] (fun v : {v : Bool // v = true → l.length ≤ 100} => .bool v.1) (fun _ _ => True) (fun _ => []) := by
  refine Ctr.mk fun w F m C hp => x_gemotlaw14_light _ _ _ w _ ?_
  refine ⟨fun left n w' _ => ∃ (j : Nat), n = j ∧ j ≤ l.length ∧ j ≤ 200 ∧ Ctx F m w w' [] m [], fun _ n _ => (200 - n).toNat, ⟨0, rfl, by omega, by omega, C⟩, ?_⟩
  rintro left n w5 L6 _ ⟨j, rfl, hj, hj2, D⟩
  by_cases h1 : j < l.length ∧ j < 200
  · obtain ⟨h1, h2⟩ := h1
    rw [if_pos (by simp; omega)]
    obtain ⟨a, rfl, hc⟩ := hp.elem ac_len h1
    refine ⟨by omega, by simpa using h1, ?_⟩
    rw [onSome_some]
    have hcs := D.cells hc
    refine ⟨l[j].v, hcs 12 _ rfl, ?_⟩
    have e : IntKind.wrap .i64 ((j : Int) + 1) = ((j + 1 : Nat) : Int) := by rw [w_i64 (by omega) (by omega)]; omega
    rw [e]
    exact ⟨⟨j + 1, rfl, by omega, by omega, D⟩, Nat.le_of_eq (by show ((200 : Int) - ((j + 1 : Nat) : Int)).toNat + 1 = ((200 : Int) - (j : Int)).toNat; omega)⟩
  · rw [if_neg (by simp; omega)]
    refine Ctr.ret (m' := m) (L := []) ⟨decide (((l.length : Nat) : Int) ≤ 100) && decide (left ≥ 0), fun h => ?_⟩ rfl trivial D
    simp only [Bool.and_eq_true, decide_eq_true_eq] at h
    omega
theorem c_knows : Ctr Try.prog 9 #[] noMem [] (fun _ : Unit => .bool true) (fun _ _ => True) (fun _ => []) := by
  refine Ctr.mk fun w F m C _ => x_gemotlaw14_knows w _ ?_
  let d1 : I := ⟨1, 1, 1, 0, 0, 0, 0, 0, 0, 0⟩
  have hd1 : d1.In := ⟨by decide, by decide, by decide, by decide, by decide, by decide, by decide, by decide, by decide, by decide⟩
  refine (c_New 2).call (As := []) C trivial fun b m2 w2 hk hm _ C => ⟨_, rfl, hk.size, fun w4 L5 h4 g4 => ?_⟩
  replace C := C.hidL h4 g4
  let r1 : Rw := ⟨d1, true, 0, ByteArray.mk #[120]⟩
  let t1 : Tb := { tb0 2 with R := [(d1, Rw.fresh d1)] }
  let t2 : Tb := { tb0 2 with R := [(d1, r1)] }
  have s0 : beginF (tb0 2) d1 = (0, t1) := by kernel_rfl
  have s1 : beginF t1 d1 = (4, t1) := by kernel_rfl
  have s2 : endF t1 d1 0 (ByteArray.mk #[120]) = (true, t2) := by kernel_rfl
  have s3 : stateF t2 d1 = 2 := by kernel_rfl
  refine (c_Begin b (tb0 2) d1 hd1).call (As := []) C trivial fun _ m3 w7 hk hm _ C => ⟨_, rfl, hk, ?_⟩
  rw [s0] at C ⊢
  refine (c_Begin b t1 d1 hd1).call (As := []) C trivial fun _ m4 w10 hk hm _ C => ⟨_, rfl, hk, ?_⟩
  rw [s1] at C ⊢
  refine (c_End b t1 d1 0 (ByteArray.mk #[120])).call (As := []) C trivial fun _ m5 w13 hk hm _ C => ⟨_, rfl, hk, ?_⟩
  rw [s2] at C ⊢
  refine (c_Res_ b t2 d1).call (As := []) C trivial fun _ m6 w16 hk hm _ C => ⟨0, ByteArray.mk #[120], true, by rw [s3]; rfl, hk, fun w20 L21 h20 g20 => ?_⟩
  replace C := C.hidL h20 g20
  refine C.gives (c_num _) fun w23 k23 C => ⟨_, rfl, k23, ?_⟩
  rw [if_pos (by decide)]
  refine C.gives (c_num _) fun w26 k26 C => ⟨_, rfl, k26, ?_⟩
  have hb : ((ByteArray.mk #[120]).toList == (ByteArray.mk #[OfNat.ofNat 120]).toList) = true := beq_self_eq_true (ByteArray.mk #[120]).toList
  rw [if_pos (by rw [hb]; rfl)]
  refine (c_Len b t2).call (As := []) C trivial fun _ m7 w29 hk hm _ C => ⟨_, rfl, hk, ?_⟩
  exact Ctr.ret () rfl trivial C.drop
theorem c_do (b : Nat) (t : Tb) (kd : Int) (d : I) (hd : d.In) (c : Int) (v : ByteArray) (nn : Int) :
    Ctr Try.prog 11 #[.pointer (some ⟨b, 0, none⟩), .agg #[.int .i64 kd, .int .u8 d.n, .int .u16 d.l, .int .u32 d.s, .int .u8 d.d, .int .u8 d.g0, .int .u8 d.i0, .int .u8 d.g1, .int .u8 d.i1, .int .u8 d.g2, .int .u8 d.i2, .int .u8 c, .string v, .int .u32 nn]] noMem [tbA b t] (fun _ : Unit => .bool (doF t ⟨kd, d, c, v, nn⟩).1) (fun _ _ => True) (fun _ => [tbA b (doF t ⟨kd, d, c, v, nn⟩).2]) := by
  refine Ctr.mk fun w F m C _ => x_gemotlaw14_do _ _ _ _ _ _ _ _ _ _ _ _ _ _ _ w _ fun w1 L2 h1 g1 => ?_
  refine (C.hidL h1 g1).gives (c_ID d) fun w4 k4 C => ⟨_, _, _, _, _, _, _, _, _, _, rfl, k4, ?_⟩
  let K : Ending → World → Prop := fun e w' => ∃ i : Unit, ∃ m' L, e = .returned (.bool (doF t ⟨kd, d, c, v, nn⟩).1) ∧ True ∧ Ctx F m w w' L m' [tbA b (doF t ⟨kd, d, c, v, nn⟩).2]
  have wB : (kd = 0 ∨ kd = 1 ∨ kd = 2) → ∀ w' L', Hid L2 w4 w' → NewL w.heap.size L2 w4 w' L' →
      CallX Try.prog 21 #[.pointer (some ⟨b, 0, none⟩), d.V] w' fun e w2 => ∃ n, e = .returned (.int .i64 n) ∧ Kept L' w' w2 ∧
        CallX Try.prog 20 #[.int .i64 n] w2 fun e w3 => ∃ n2, e = .returned (.int .i64 n2) ∧ Kept L' w2 w3 ∧ K (.returned (.bool (n2 == 0))) w3 := by
    intro hk w' L' hh gg
    refine (c_Begin b t d hd).call (As := []) (C.hidL hh gg) trivial fun _ m3 w7 hk1 hm _ C => ⟨_, rfl, hk1, ?_⟩
    refine C.gives (c_num _) fun w23 k23 C => ⟨_, rfl, k23, (), m3, L', ?_, trivial, ?_⟩
    · rw [doF, if_pos hk]
    · rw [doF, if_pos hk]; exact C
  have wE : (kd = 3 ∨ kd = 4) → ∃ x : Facts, FactsW x w4 L2 ∧ ∀ w' L', Hid L2 w4 w' → NewL w.heap.size L2 w4 w' L' →
      CallX Try.prog 24 #[.agg #[.int .u8 c, .string v]] w' fun e w2 => ∃ n, ∃ s, e = .returned (.agg #[.int .u8 n, .string s]) ∧ Kept L' w' w2 ∧ FactsW x w2 L' ∧
        CallX Try.prog 23 #[.pointer (some ⟨b, 0, none⟩), d.V, .agg #[.int .u8 n, .string s]] w2 fun e w3 => ∃ n2, e = .returned (.bool n2) ∧ Kept L' w2 w3 ∧ FactsW x w3 L' ∧ K (.returned (.bool false)) w3 := by
    intro hk
    refine ⟨[], facts_nil _ _, fun w' L' hh gg => ?_⟩
    have hn : ¬ (kd = 0 ∨ kd = 1 ∨ kd = 2) := by omega
    refine (C.hidL hh gg).gives (c_Res c v) fun w2 k2 C => ⟨_, _, rfl, k2, facts_nil _ _, ?_⟩
    refine (c_End b t d c v).call (As := []) C trivial fun _ m3 w7 hk1 hm _ C => ⟨_, rfl, hk1, facts_nil _ _, (), m3, L', ?_, trivial, ?_⟩
    · rw [doF, if_neg hn, if_pos hk]
    · rw [doF, if_neg hn, if_pos hk]; exact C
  have wR : kd = 5 → ∀ w' L', Hid L2 w4 w' → NewL w.heap.size L2 w4 w' L' →
      CallX Try.prog 26 #[.pointer (some ⟨b, 0, none⟩), .agg #[.int .u8 d.n, .int .u16 d.l], .int .u32 nn] w' fun e w2 => e = .returned (.tuple #[]) ∧ Kept L' w' w2 ∧ K (.returned (.bool false)) w2 := by
    intro hk w' L' hh gg
    refine (c_Raise b t (d.n, d.l) nn).call (As := []) (C.hidL hh gg) trivial fun _ m3 w7 hk1 hm _ C => ⟨rfl, hk1, (), m3, L', ?_, trivial, ?_⟩
    · rw [doF, if_neg (by simp only; omega), if_neg (by simp only; omega), if_pos hk]
    · rw [doF, if_neg (by simp only; omega), if_neg (by simp only; omega), if_pos hk]; exact C
  have wN : ¬ (kd = 0 ∨ kd = 1 ∨ kd = 2) → ¬ (kd = 3 ∨ kd = 4) → ¬ kd = 5 → ∀ w' : World, Hid L2 w4 w' → K (.returned (.bool false)) w' := by
    intro k0 k3 k5 w' hh
    refine ⟨(), m, [], ?_, trivial, ?_⟩
    · rw [doF, if_neg k0, if_neg k3, if_neg k5]
    · rw [doF, if_neg k0, if_neg k3, if_neg k5]; exact C.hid0 hh
  by_cases h0 : kd = 0
  · subst h0; rw [if_pos (by decide), if_pos (by decide)]; exact wB (by omega)
  by_cases h1 : kd = 1
  · subst h1; rw [if_neg (by decide), if_pos (by decide), if_pos (by decide)]; exact wB (by omega)
  by_cases h2 : kd = 2
  · subst h2; rw [if_neg (by decide), if_neg (by decide), if_pos (by decide)]; exact wB (by omega)
  by_cases h3 : kd = 3
  · subst h3; rw [if_neg (by decide), if_neg (by decide), if_neg (by decide), if_pos (by decide), if_pos (by decide)]; exact wE (by omega)
  by_cases h4 : kd = 4
  · subst h4; rw [if_neg (by decide), if_neg (by decide), if_neg (by decide), if_neg (by decide), if_pos (by decide)]; exact wE (by omega)
  by_cases h5 : kd = 5
  · subst h5; rw [if_neg (by decide), if_neg (by decide), if_neg (by decide), if_neg (by decide), if_neg (by decide), if_pos (by decide)]; exact wR rfl
  rw [if_neg (by simpa using h0), if_neg (by simpa using h1), if_neg (by simpa using h2), if_neg (by simpa using h3), if_neg (by simpa using h4), if_neg (by simpa using h5)]
  exact wN (by omega) (by omega) h5
end Go.Proofs
