import Derived.Test.YtjphfelmaingjaaU07m5
import Derived.Test.YtjphfelmaingjaaV07k
set_option linter.unusedVariables false
set_option linter.unusedSimpArgs false
set_option maxRecDepth 10000
namespace Go.Proofs
open Go X RowKit
theorem mk_M {m : Mem} {x : Mg} (h : MgM0 m x) (l : x.lt) : MgM m x :=
  ⟨h.p, h.v, h.mm, ⟨h.e.1, fun e he => ⟨(h.e.2 e he).p, (h.e.2 e he).w, by have := (l.e.2 e he).1; omega, by have := (l.e.2 e he).2; omega⟩⟩, ⟨h.t.1, fun e he => ⟨(h.t.2 e he).p, (h.t.2 e he).w, by have := (l.t.2 e he).1; omega, by have := (l.t.2 e he).2; omega⟩⟩, h.pl, by have := l.v; omega, by have := l.m; omega, by have := l.e.1; omega, by have := l.t.1; omega⟩
/-- WireRights -/
theorem l_WireRights (w : World) (a b : Mg) (hA : MgM0 (memOf w) a) (hB : MgM0 (memOf w) b) (hia : MvIn a.er) (hib : MvIn b.er) : Calls Try.prog 3 #[.agg a.row.toArray, .agg b.row.toArray] w (LawR w) := by
  refine x_WireRights _ _ _ _ _ _ _ _ _ _ _ _ _ _ _ _ _ _ _ _ _ _ _ _ _ _ _ _ _ _ _ _ _ _ _ _ _ _ _ _ _ _ _ _ _ _ _ _ _ _ _ _ _ _ _ _ _ _ _ _ _ _ _ _ _ _ _ _ _ _ _ _ _ _ _ _ _ _ _ _ _ _ w _ fun w1 L2 h1 g1 => ?_
  refine (c_Light7 a).call (As := []) ((lawStart w).hidL h1 g1) hA fun b1 m1 w4 hk hm1 hb1 C => ⟨b1, rfl, hk, ?_⟩
  cases b1 with
  | false =>
    rw [if_neg (by decide)]
    exact C.gives g_knows fun w7 k7 C => ⟨_, rfl, k7, rfl, Ctx.at_ C⟩
  | true =>
  rw [if_pos (by decide)]
  refine (c_Light7 b).call (As := []) C (hB.mono hm1) fun b2 m2 w10 hk hm2 hb2 C => ⟨b2, rfl, hk, ?_⟩
  cases b2 with
  | false =>
    rw [if_pos (by decide)]
    exact C.gives g_knows fun w7 k7 C => ⟨_, rfl, k7, rfl, Ctx.at_ C⟩
  | true =>
  rw [if_neg (by decide)]
  have mA := mk_M ((hA.mono hm1).mono hm2) (hb1 rfl)
  have mB := mk_M ((hB.mono hm1).mono hm2) (hb2 rfl)
  clear hA hB
  refine ⟨[], facts_nil _ _, fun w13 L14 h13 g13 => ?_⟩
  refine (c_OwnM a).call (As := []) (C.hidL h13 g13) mA fun y m3 w16 hk hm3 hy C => ⟨_, _, _, _, _, _, _, _, _, _, _, _, _, _, _, _, _, _, _, _, _, _, _, _, _, _, _, _, _, _, _, _, _, _, _, _, _, _, _, _, _, rfl, hk, facts_nil _ _, [], facts_nil _ _, (fun _ h => h), ?_⟩
  refine (c_mRight y (by rw [hy.2]; exact hia)).call (As := []) C hy.1 fun _ m4 w61 hk hm4 _ C => ⟨_, rfl, hk, facts_nil _ _, [], facts_nil _ _, (fun _ h => h), ?_⟩
  replace mA := (mA.mono hm3).mono hm4
  replace mB := (mB.mono hm3).mono hm4
  refine (c_r7Right a hia).call (As := []) C mA fun _ m5 w66 hk hm5 _ C => ⟨_, rfl, hk, facts_nil _ _, [], facts_nil _ _, (fun _ h => h), ?_⟩
  replace mA := mA.mono hm5
  replace mB := mB.mono hm5
  rw [hy.2, if_pos (by simp)]
  refine (c_OwnM a).call (As := []) C mA fun y1 m6 w85 hk hm6 hy1 C => ⟨_, _, _, _, _, _, _, _, _, _, _, _, _, _, _, _, _, _, _, _, _, _, _, _, _, _, _, _, _, _, _, _, _, _, _, _, _, _, _, _, _, rfl, hk, facts_nil _ _, [], facts_nil _ _, (fun _ h => h), ?_⟩
  refine (c_OwnM b).call (As := []) C (mB.mono hm6) fun y2 m7 w130 hk hm7 hy2 C => ⟨_, _, _, _, _, _, _, _, _, _, _, _, _, _, _, _, _, _, _, _, _, _, _, _, _, _, _, _, _, _, _, _, _, _, _, _, _, _, _, _, _, rfl, hk, facts_nil _ _, [], facts_nil _ _, (fun _ h => h), ?_⟩
  refine (c_mSame y1 y2).call (As := []) C ⟨hy1.1.mono hm7, hy2.1⟩ fun _ m8 w175 hk hm8 _ C => ⟨_, rfl, hk, facts_nil _ _, [], facts_nil _ _, (fun _ h => h), ?_⟩
  replace mA := ((mA.mono hm6).mono hm7).mono hm8
  replace mB := ((mB.mono hm6).mono hm7).mono hm8
  refine (c_r7Same a b).call (As := []) C ⟨mA, mB⟩ fun _ m9 w180 hk hm9 _ C => ⟨_, rfl, hk, facts_nil _ _, [], facts_nil _ _, (fun _ h => h), ?_⟩
  rw [hy1.2, hy2.2, if_pos (by simp)]
  replace mA := mA.mono hm9
  refine (c_OwnM a).call (As := []) C mA fun y3 m10 w191 hk hm10 hy3 C => ⟨_, _, _, _, _, _, _, _, _, _, _, _, _, _, _, _, _, _, _, _, _, _, _, _, _, _, _, _, _, _, _, _, _, _, _, _, _, _, _, _, _, rfl, hk, facts_nil _ _, [], facts_nil _ _, (fun _ h => h), ?_⟩
  refine (c_OwnM a).call (As := []) C (mA.mono hm10) fun y4 m11 w236 hk hm11 hy4 C => ⟨_, _, _, _, _, _, _, _, _, _, _, _, _, _, _, _, _, _, _, _, _, _, _, _, _, _, _, _, _, _, _, _, _, _, _, _, _, _, _, _, _, rfl, hk, facts_nil _ _, [], facts_nil _ _, (fun _ h => h), ?_⟩
  refine (c_mSame y3 y4).call (As := []) C ⟨hy3.1.mono hm11, hy4.1⟩ fun _ m12 w281 hk hm12 _ C => ⟨_, rfl, hk, facts_nil _ _, [], facts_nil _ _, (fun _ h => h), ?_⟩
  rw [hy3.2, hy4.2, if_pos (by simp)]
  refine C.gives (c_Word a.kd hia.kd) fun w286 k286 C => ⟨_, rfl, k286, facts_nil _ _, ?_⟩
  refine C.gives (c_rWord a.kd hia.kd) fun w289 k289 C => ⟨_, rfl, k289, facts_nil _ _, ?_⟩
  rw [if_pos (by simp)]
  exact C.gives g_knows fun w292 k292 C => ⟨_, rfl, k292, facts_nil _ _, rfl, Ctx.at_ C⟩
theorem msrc_take {m : Mem} {sz : Nat} {q : Option Addr} {n c : Nat} {cs : List Value} (h : MSrc m sz (.slice q n c) n cs) (k c2 : Nat) (hk : k ≤ n) : MSrc m sz (.slice q k c2) k (cs.take (k * sz)) := by
  have hl := h.len
  have hle : k * sz ≤ n * sz := Nat.mul_le_mul_right _ hk
  cases q with
  | none =>
    obtain ⟨h0, h1⟩ := h.none_len
    have : k = 0 := by omega
    subst this; subst h1
    rw [List.take_nil]; exact .nil ..
  | some a =>
    refine MSrc.mk (by rw [List.length_take]; omega) (fun a' ha => ?_) (fun h => by cases h)
    injection ha with ha; subst ha
    intro j u hj
    have hjl := (List.getElem?_eq_some_iff.1 hj).1
    rw [List.length_take] at hjl
    rw [List.getElem?_take_of_lt (by omega)] at hj
    cases h with
    | nil => simp at hj
    | row _ _ _ _ h0 h1 h2 => exact h2 j u hj
/-- WireBounds -/
theorem l_WireBounds (w : World) (e : En) (g f d : Int) (hM : EnM0 (memOf w) e) (hi : EvIn e.er) (hg : 0 ≤ g ∧ g < 256) (hf : 0 ≤ f ∧ f < 4294967296) (hd : -9223372036854775808 ≤ d ∧ d < 9223372036854775808) : Calls Try.prog 4 #[.agg e.row.toArray, .int .u8 g, .int .u32 f, .int .i64 d] w (LawR w) := by
  refine x_WireBounds _ _ _ _ _ _ _ _ _ _ _ _ _ _ _ _ _ _ _ _ _ _ _ _ _ w _ fun w1 L2 h1 g1 => ?_
  obtain ⟨C, hmm⟩ := ((lawStart w).hidL h1 g1).newShare e.row 62 (0, 0)
  have hsrc : MSrc ((memOf w).plus w1.heap.size e.row) 18 (.slice (some ⟨w1.heap.size, 0, none⟩) 1 1) 1 ([e].flatMap En.row) := by
    have : [e].flatMap En.row = e.row := by simp
    rw [this]
    exact MSrc.mk rfl (fun a ha => by injection ha with ha; subst ha; exact Mem.plus_cells _ _ _ _ _ fun j v hj => by rw [Nat.zero_add]; exact hj) (fun h => by cases h)
  refine (c_Light5 (some ⟨w1.heap.size, 0, none⟩, 1) [e]).call (As := []) C ⟨hsrc, fun e' he' => (show e' = e by simpa using he') ▸ hM.mono hmm⟩ fun b m1 w4 hk hm1 hb C => ⟨b, rfl, hk, ?_⟩
  cases b with
  | false =>
    rw [if_neg (by decide)]
    exact C.gives g_knows fun w7 k7 C => ⟨_, rfl, k7, rfl, Ctx.at_ C⟩
  | true =>
  rw [if_pos (by decide)]
  obtain ⟨-, hb⟩ := hb rfl
  obtain ⟨hpl, hwl⟩ := hb e (by simp)
  have hM1 : EnM m1 e := ⟨(hM.p.mono hmm).mono hm1, (hM.w.mono hmm).mono hm1, by omega, by omega⟩
  obtain ⟨G, hG, hG0⟩ : ∃ G : Int, g.tmod 4 = G ∧ 0 ≤ G ∧ G < 4 := ⟨_, rfl, Int.tmod_nonneg _ hg.1, Int.tmod_lt_of_pos _ (by decide)⟩
  obtain ⟨P, hP, hP0⟩ : ∃ P : Int, f.tmod 402 = P ∧ 0 ≤ P ∧ P < 402 := ⟨_, rfl, Int.tmod_nonneg _ hf.1, Int.tmod_lt_of_pos _ (by decide)⟩
  obtain ⟨N, hN, hN0⟩ : ∃ N : Nat, IntKind.wrap .i64 (398 + ((IntKind.i64.wrap (d.tmod 5 + 5)).tmod 5)) = (N : Int) ∧ 398 ≤ N ∧ N ≤ 402 := by
    have h5 : -5 < d.tmod 5 ∧ d.tmod 5 < 5 := ⟨by
      rcases Int.le_total 0 d with h | h
      · have := Int.tmod_nonneg (a := d) 5 h; omega
      · have h1 := Int.tmod_lt_of_pos (-d) (b := 5) (by decide)
        rw [Int.neg_tmod] at h1; omega, Int.tmod_lt_of_pos _ (by decide)⟩
    rw [w_i64 (n := d.tmod 5 + 5) (by omega) (by omega)]
    obtain ⟨r, hr, hr0⟩ : ∃ r : Int, (d.tmod 5 + 5).tmod 5 = r ∧ 0 ≤ r ∧ r < 5 := ⟨_, rfl, Int.tmod_nonneg _ (by omega), Int.tmod_lt_of_pos _ (by decide)⟩
    rw [hr, w_i64 (by omega) (by omega)]
    exact ⟨(398 + r).toNat, by omega, by omega⟩
  simp only [hG, hP, hN]
  refine (c_r5Right e G hi).call (As := []) C hM1 fun _ m2 w10 hk hm2 _ C => ⟨_, rfl, hk, ?_⟩
  by_cases hr : e.er.right G = true
  rotate_left
  · rw [Bool.eq_false_iff.2 hr, if_neg (by decide)]
    exact C.gives g_knows fun w7 k7 C => ⟨_, rfl, k7, rfl, Ctx.at_ C⟩
  rw [hr, if_pos (by decide)]
  refine C.gives g_knows fun w16 k16 C => ⟨_, rfl, k16, ?_⟩
  rw [if_neg (by decide)]
  have hM2 := hM1.mono hm2
  refine ⟨fun q k c n w' L' => ∃ j : Nat, n = j ∧ j = k ∧ j ≤ N ∧ Ctx [] (memOf w) w w' L' m2 [slA (.slice q j c) j ((List.replicate j e).flatMap En.row) 62 18], fun _ _ _ n _ => ((N : Int) - n).toNat, ⟨0, rfl, rfl, by omega, C.slNil⟩, ?_⟩
  clear C
  rintro q k c n w24 L25 _ ⟨j, rfl, rfl, hj, C⟩
  by_cases hjl : j < N
  · rw [if_pos (by simpa using hjl)]
    have D1 := (C.alloc e.row 62).swap
    have hcl : Cells _ ⟨w24.heap.size, 0, none⟩ e.row := (C.alloc e.row 62).blkCells (o := 0) fun k v e => by simpa using e
    obtain ⟨q2, c2, w25, hr2, hkk, D2⟩ := D1.app2 (P := Try.prog) (bytes := 160) (t := 38) (t2 := 38) 38 (by kernel_rfl) (.some ⟨w24.heap.size, 0, none⟩ 1 1 e.row rfl hcl) (by unfold maxLen; omega) (by omega) (en_one _)
    have e1 : IntKind.wrap .i64 ((j : Int) + 1) = ((j + 1 : Nat) : Int) := by rw [w_i64 (by omega) (by omega)]; omega
    have e2 : (List.replicate (j + 1) e).flatMap En.row = (List.replicate j e).flatMap En.row ++ e.row := by rw [List.replicate_succ', List.flatMap_append]; simp
    refine ⟨q2, j + 1, c2, w25, hr2, hkk, trivial, ?_⟩
    rw [e1]
    refine ⟨⟨j + 1, rfl, rfl, hjl, ?_⟩, Nat.le_of_eq (by show ((N : Int) - ((j + 1 : Nat) : Int)).toNat + 1 = ((N : Int) - (j : Int)).toNat; omega)⟩
    rw [e2]
    exact D2.pk [0] [1] rfl
  rw [if_neg (by simpa using hjl)]
  obtain rfl : j = N := by omega
  have hcap := C.slCap.1
  obtain ⟨m3, hm3, hs, C⟩ := C.slShare
  replace hM2 := hM2.mono hm3
  have hK : IntKind.wrap .i64 ((j : Int) - 398) = ((j - 398 : Nat) : Int) := by rw [w_i64 (by omega) (by omega)]; omega
  rw [hK, cutA_zero, Int.toNat_natCast]
  refine ⟨by omega, by omega, [], facts_nil _ _, fun w27 L28 h27 g27 => ?_⟩
  have hall : ∀ n : Nat, n ≤ 100000 → EsM m3 (q, c) (List.replicate n e) → True := fun _ _ _ => trivial
  have hes : ∀ n : Nat, ((List.replicate n e).map En.er).all (·.right G) = true := fun n => List.all_eq_true.2 fun x hx => by
    obtain ⟨y, hy, rfl⟩ := List.mem_map.1 hx
    rw [List.eq_of_mem_replicate hy]; exact hr
  obtain ⟨es, hesd⟩ : ∃ es, es = List.replicate (j - 398) e := ⟨_, rfl⟩
  obtain ⟨el, held⟩ : ∃ el, el = List.replicate j e := ⟨_, rfl⟩
  have les : es.length = j - 398 := by rw [hesd, List.length_replicate]
  have lel : el.length = j := by rw [held, List.length_replicate]
  have mes : EsM m3 (q, c) es := by
    refine ⟨?_, fun x hx => by rw [hesd] at hx; rw [List.eq_of_mem_replicate hx]; exact hM2⟩
    have := msrc_take hs (j - 398) c (by omega)
    rw [flat_take en_len, List.take_replicate, Nat.min_eq_left (by omega), ← hesd] at this
    show MSrc m3 18 (.slice q es.length c) es.length _
    rw [les]; exact this
  have mel : EsM m3 (q, c) el := by
    refine ⟨?_, fun x hx => by rw [held] at hx; rw [List.eq_of_mem_replicate hx]; exact hM2⟩
    rw [← held] at hs
    show MSrc m3 18 (.slice q el.length c) el.length _
    rw [lel]; exact hs
  have aes : allE (es.map En.er) G = true := by rw [allE, hesd, hes, Bool.and_true, decide_eq_true_eq]; simp; omega
  have ael : allE (el.map En.er) G = decide (j ≤ 400) := by rw [allE, held, hes, Bool.and_true]; simp
  have ines : ∀ x ∈ es.map En.er, EvIn x := fun x hx => by
    obtain ⟨y, hy, rfl⟩ := List.mem_map.1 hx
    rw [hesd] at hy; rw [List.eq_of_mem_replicate hy]; exact hi
  have inel : ∀ x ∈ el.map En.er, EvIn x := fun x hx => by
    obtain ⟨y, hy, rfl⟩ := List.mem_map.1 hx
    rw [held] at hy; rw [List.eq_of_mem_replicate hy]; exact hi
  clear hesd held hall hs
  rw [show j - 398 = es.length from les.symm]
  let x1 : Mg := ⟨3, G, 0, 1, P, 0, 0, 0, 0, I.zero, (none, 0), [], 0, ByteArray.mk #[], 0, 0, (none, 0), [], 0, 0, false, (none, 0), [], (q, c), es, (none, 0), []⟩
  let x2 : Mg := ⟨8, G, 0, 1, 0, 0, 0, 1, 0, I.zero, (none, 0), [], 0, ByteArray.mk #[], 0, 0, (none, 0), [], 0, 0, false, (none, 0), [], (q, c), el, (none, 0), []⟩
  have M1 : MgM m3 x1 := ⟨.nil .., .nil .., .nil .., mes, esNil m3, by show (0 : Nat) ≤ _; omega, by show (0 : Nat) ≤ _; omega, by show (0 : Nat) ≤ _; omega, by show es.length ≤ _; omega, by show (0 : Nat) ≤ _; omega⟩
  have M2 : MgM m3 x2 := ⟨.nil .., .nil .., .nil .., mel, esNil m3, by show (0 : Nat) ≤ _; omega, by show (0 : Nat) ≤ _; omega, by show (0 : Nat) ≤ _; omega, by show el.length ≤ _; omega, by show (0 : Nat) ≤ _; omega⟩
  have I1 : MvIn x1.er := ⟨kI, (fun p hp => nomatch hp), (fun p hp => nomatch hp), (fun p hp => nomatch hp), ines, (fun p hp => nomatch hp), by show 0 ≤ G ∧ G < 256; omega, by show (0 : Int) ≤ 0; omega, by show 0 ≤ P ∧ P < 4294967296; omega, by show (0 : Int) ≤ 3 ∧ (3 : Int) < 256; omega, by show (0 : Int) ≤ 1 ∧ (1 : Int) < 18446744073709551616; omega, by show (0 : Int) ≤ 0 ∧ (0 : Int) < 18446744073709551616; omega⟩
  have I2 : MvIn x2.er := ⟨kI, (fun p hp => nomatch hp), (fun p hp => nomatch hp), (fun p hp => nomatch hp), inel, (fun p hp => nomatch hp), by show 0 ≤ G ∧ G < 256; omega, by show (0 : Int) ≤ 0; omega, by show (0 : Int) ≤ 0 ∧ (0 : Int) < 4294967296; omega, by show (0 : Int) ≤ 8 ∧ (8 : Int) < 256; omega, by show (0 : Int) ≤ 1 ∧ (1 : Int) < 18446744073709551616; omega, by show (0 : Int) ≤ 1 ∧ (1 : Int) < 18446744073709551616; omega⟩
  have R1 : x1.er.right = decide (P + (es.length : Int) ≤ 400) := by
    have o1 : x1.er = x1.er.onlyP := by rw [oP3 rfl]; rfl
    rw [Mv.right, fP3 rfl, decide_eq_true o1, Bool.and_true]
    show (decide (G < 4) && (decide ((1 : Int) > 0) && decide (P ≤ 400) && decide ((0 : Int) ≤ 400) && decide (P + (((es.map En.er).length : Nat) : Int) ≤ 400) && allE (es.map En.er) G)) = _
    rw [aes, Bool.and_true, decide_eq_true (show G < 4 by omega), Bool.true_and, List.length_map, Bool.eq_iff_iff]
    simp only [Bool.and_eq_true, decide_eq_true_eq]
    omega
  have R2 : x2.er.right = decide (j ≤ 400) := by
    have o1 : x2.er = x2.er.onlyP := by rw [oP8 rfl]; rfl
    rw [Mv.right, fP8 rfl, decide_eq_true o1, Bool.and_true]
    show (decide (G < 4) && (decide ((1 : Int) > 0) && decide ((1 : Int) > 0) && allE (el.map En.er) G && (!false || _))) = _
    rw [ael, decide_eq_true (show G < 4 by omega)]
    simp
  refine (c_OwnM x1).call (As := []) (C.hidL h27 g27) M1 fun y m4 w30 hk hm4 hy C => ⟨_, _, _, _, _, _, _, _, _, _, _, _, _, _, _, _, _, _, _, _, _, _, _, _, _, _, _, _, _, _, _, _, _, _, _, _, _, _, _, _, _, rfl, hk, facts_nil _ _, [], facts_nil _ _, (fun _ h => h), ?_⟩
  refine (c_mRight y (by rw [hy.2]; exact I1)).call (As := []) C hy.1 fun _ m5 w75 hk hm5 _ C => ⟨_, rfl, hk, facts_nil _ _, [], facts_nil _ _, (fun _ h => h), ?_⟩
  have hsum : IntKind.wrap .i64 (IntKind.wrap .i64 (IntKind.wrap .i64 P + (j : Int)) - 398) = P + (es.length : Int) := by
    rw [w_i64 (n := P) (by omega) (by omega), w_i64 (n := P + j) (by omega) (by omega), w_i64 (by omega) (by omega), les]; omega
  rw [hy.2, R1, hsum, if_pos (by simp)]
  rw [show (j : Nat) = el.length from lel.symm]
  replace M1 := (M1.mono hm4).mono hm5
  replace M2 := (M2.mono hm4).mono hm5
  refine (c_OwnM x2).call (As := []) C M2 fun y2 m6 w84 hk hm6 hy2 C => ⟨_, _, _, _, _, _, _, _, _, _, _, _, _, _, _, _, _, _, _, _, _, _, _, _, _, _, _, _, _, _, _, _, _, _, _, _, _, _, _, _, _, rfl, hk, facts_nil _ _, [], facts_nil _ _, (fun _ h => h), ?_⟩
  refine (c_mRight y2 (by rw [hy2.2]; exact I2)).call (As := []) C hy2.1 fun _ m7 w129 hk hm7 _ C => ⟨_, rfl, hk, facts_nil _ _, [], facts_nil _ _, (fun _ h => h), ?_⟩
  rw [hy2.2, R2]
  have hj4 : decide (j ≤ 400) = decide (((el.length : Nat) : Int) ≤ 400) := by rw [Bool.eq_iff_iff]; simp only [decide_eq_true_eq]; omega
  rw [hj4, if_pos (by simp)]
  replace M1 := (M1.mono hm6).mono hm7
  refine (c_OwnM x1).call (As := []) C M1 fun y3 m8 w134 hk hm8 hy3 C => ⟨_, _, _, _, _, _, _, _, _, _, _, _, _, _, _, _, _, _, _, _, _, _, _, _, _, _, _, _, _, _, _, _, _, _, _, _, _, _, _, _, _, rfl, hk, facts_nil _ _, ?_⟩
  refine (c_mRight y3 (by rw [hy3.2]; exact I1)).call (As := []) C hy3.1 fun _ m9 w177 hk hm9 _ C => ⟨_, rfl, hk, facts_nil _ _, ?_⟩
  refine (c_r7Right x1 I1).call (As := []) C ((M1.mono hm8).mono hm9) fun _ m10 w180 hk hm10 _ C => ⟨_, rfl, hk, facts_nil _ _, ?_, Ctx.at_ C⟩
  rw [hy3.2]; simp
end Go.Proofs
