import Derived.Test.YtjphfelmaingjaaU07fn
set_option linter.unusedVariables false
set_option linter.unusedSimpArgs false
set_option maxRecDepth 10000
namespace Go.Proofs
open Go X RowKit
/-! ### bytes as a packet -/
def zE : Pe := ⟨0, 0, 0, 0, 0, 0, false, []⟩
def zK : Pk := ⟨0, 0, 0, 0, 0, 0, false, (none, 0), []⟩
/-- what is left when both processes and both numbers are read -/
def unE (a b : UInt8 × Nat) (sq ak : Nat) (has : Bool) (body : List UInt8) (e : Int) : Pe × Int := if e ≠ 0 then (zE, e) else if rightP (a.1.toNat : Int) (a.2 : Int) = true ∧ rightP (b.1.toNat : Int) (b.2 : Int) = true then (⟨a.1.toNat, a.2, b.1.toNat, b.2, sq, ak, has, body⟩, 0) else (zE, 6)
def unT2 (a b : UInt8 × Nat) (sq ak : Nat) (s : St) : Pe × Int := let f := flagS s; let t := if f.1 = true then textS 524288 f.2 else ([], f.2); unE a b sq ak f.1 t.1 (endS t.2)
abbrev M64 : Nat := 18446744073709551615
def unT (s : St) : Pe × Int := let a := procS s; let b := procS a.2; let c := uS M64 b.2; let d := uS M64 c.2; unT2 a.1 b.1 c.1 d.1 d.2
def unS (l : List UInt8) : Pe × Int := if l.length > 524288 then (zE, 5) else if l.length < 4 then (zE, 7) else if sumd (l.take (l.length - 4)) = l then unT (l.take (l.length - 4), 0) else (zE, 7)
theorem unE_err {a b : UInt8 × Nat} {sq ak : Nat} {has : Bool} {body : List UInt8} {e : Int} (h : e ≠ 0) : unE a b sq ak has body e = (zE, e) := by rw [unE, if_pos h]
theorem unE_ok {a b : UInt8 × Nat} {sq ak : Nat} {has : Bool} {body : List UInt8} (h : rightP (a.1.toNat : Int) (a.2 : Int) = true ∧ rightP (b.1.toNat : Int) (b.2 : Int) = true) : unE a b sq ak has body 0 = (⟨a.1.toNat, a.2, b.1.toNat, b.2, sq, ak, has, body⟩, 0) := by rw [unE, if_neg (by decide), if_pos h]
theorem unE_no {a b : UInt8 × Nat} {sq ak : Nat} {has : Bool} {body : List UInt8} (h : ¬ (rightP (a.1.toNat : Int) (a.2 : Int) = true ∧ rightP (b.1.toNat : Int) (b.2 : Int) = true)) : unE a b sq ak has body 0 = (zE, 6) := by rw [unE, if_neg (by decide), if_neg h]
theorem ret_zero {F : List Nat} {m0 m : Mem} {w w' : World} {L : List Nat} {l : List UInt8} {e : Int} {As : List Asn} (h : unS l = (zE, e)) (C : Ctx F m0 w w' L m As) (hA : ∀ F, Sat w' As F → True) : True := trivial
theorem dropAll {F : List Nat} {m0 m : Mem} {w w' : World} {L : List Nat} {As : List Asn} (C : Ctx F m0 w w' L m As) : Ctx F m0 w w' L m [] := C.sub fun F _ _ => ⟨[], rfl, by simp⟩
theorem retZ {F : List Nat} {m0 m : Mem} {w w' w2 : World} {L : List Nat} {l : List UInt8} {e : Int} {As : List Asn} (h : unS l = (zE, e)) (C : Ctx F m0 w w' L m As) (h2 : Hid L w' w2) :
    ∃ (i : Pk) (m' : Mem) (L : List Nat), Ending.returned (.tuple #[.agg #[.int .u8 0, .int .u16 0, .int .u8 0, .int .u16 0, .int .u64 0, .int .u64 0, .bool false, .slice none 0 0], .int .i64 e]) = .returned (.tuple #[.agg i.row.toArray, .int .i64 (unS l).2]) ∧ (i.er = (unS l).1 ∧ bsM m' i.q i.body) ∧ Ctx F m0 w w2 L m' [] := by
  rw [h]
  exact ⟨zK, m, [], rfl, ⟨rfl, .nil ..⟩, (dropAll C).hid0 h2⟩
theorem c_Unframe (q : Sl) (l : List UInt8) (hl : l.length ≤ 100000000) (hq : l.length ≤ q.2) : Ctr Try.prog 21 #[slV q l.length] (fun m => bsM m q l) [] (fun p : Pk => .tuple #[.agg p.row.toArray, .int .i64 (unS l).2]) (fun p m => p.er = (unS l).1 ∧ bsM m p.q p.body) (fun _ => []) := by
  refine Ctr.mk fun w F m C h => x_Unframe _ _ _ w _ ?_
  by_cases hbig : l.length > 524288
  · rw [if_pos (by simp only [decide_eq_true_eq]; omega)]
    intro w1 h1; exact retZ (by rw [unS, if_pos hbig]) C h1
  rw [if_neg (by simp only [decide_eq_true_eq]; omega)]
  have e4 : IntKind.wrap .i64 ((l.length : Int) - 4) = (l.length : Int) - 4 := w_i64 (by omega) (by omega)
  rw [e4]
  by_cases h4 : l.length < 4
  · rw [if_neg (by simp only [beq_iff_eq, decide_eq_false_iff_not]; omega)]
    intro w1 h1; exact retZ (by rw [unS, if_neg hbig, if_pos h4]) C h1
  rw [if_pos (by simp only [beq_iff_eq, decide_eq_false_iff_not]; omega)]
  refine ⟨by omega, by omega, fun w2 L3 h2 g2 => ?_⟩
  have e5 : ((l.length : Int) - 4).toNat = l.length - 4 := by omega
  have hkb := bs_take h (l.length - 4) q.2 (by omega)
  have hun : unS l = if sumd (l.take (l.length - 4)) = l then unT (l.take (l.length - 4), 0) else (zE, 7) := by rw [unS, if_neg hbig, if_neg h4]
  have hkl : l.length - 4 = (l.take (l.length - 4)).length := by rw [List.length_take]; omega
  rw [e5, cutA_zero]
  generalize hkk : l.take (l.length - 4) = k at hkb hun hkl
  rw [hkl]
  have hk0 : k.length ≤ 100000000 := by omega
  refine (c_CloneB (q.1, q.2) k hk0).call (As := []) (C.hidL h2 g2) hkb fun q1 m1 w5 hk hm1 _ C => ⟨_, _, _, rfl, hk, ?_⟩
  refine (c_summed q1 k (by omega)).call (As := []) C trivial fun q2 m2 w10 hk hm2 _ C => ⟨_, _, _, rfl, hk, ?_⟩
  refine (c_bEqual q2 q (sumd k) l).call (As := []) C ((h.mono hm1).mono hm2) fun _ m3 w15 hk hm3 _ C => ⟨_, rfl, hk, ?_⟩
  by_cases hs : sumd k = l
  rotate_left
  · rw [decide_eq_false hs, if_pos (by decide)]
    intro w1 h1; exact retZ (by rw [hun, if_neg hs]) C h1
  rw [if_pos hs] at hun
  rw [decide_eq_true hs, if_neg (by decide)]
  refine ⟨by omega, by omega, ?_⟩
  refine (c_Read1 (q.1, q.2) k hk0).call (As := []) (Ctx.drop C) (((hkb.mono hm1).mono hm2).mono hm3) fun p m4 w18 hk hm4 hr0 C => ⟨_, rfl, hk, [], facts_nil _ _, ?_, ?_⟩
  · have hun0 : unS l = unT p.2.st := by rw [hun, hr0.2]
    intro w21 L22 h21 g21
    refine (c_GetProc p.1 p.2).call (As := []) (C.hidL h21 g21) hr0.1 fun r1 m5 w20 hk hm5 hr1 C => ⟨_, _, rfl, hk, facts_nil _ _, ?_, fun wa La ha ga => ?_⟩
    · refine (c_GetProc p.1 r1).call (As := []) C hr1.1 fun r2 m6 w21 hk hm6 hr2 C => ⟨_, _, rfl, hk, facts_nil _ _, ?_, fun wa La ha ga => ?_⟩
      · refine (c_rdwide p.1 r2).call (As := []) C hr2.1 fun r3 m7 w22 hk hm7 hr3 C => ⟨_, rfl, hk, facts_nil _ _, ?_, fun wa La ha ga => ?_⟩
        · refine (c_rdwide p.1 r3).call (As := []) C hr3.1 fun r4 m8 w23 hk hm8 hr4 C => ⟨_, rfl, hk, facts_nil _ _, fun wa La ha ga => ?_⟩
          have hu0 : unS l = unT2 (procS p.2.st).1 (procS r1.st).1 (uS M64 r2.st).1 (uS M64 r3.st).1 r4.st := by
            rw [hun0, unT, ← hr1.2, ← hr2.2, ← hr3.2, ← hr4.2]
          refine (c_rdflag p.1 r4).call (As := []) (C.hidL ha ga) hr4.1 fun r5 m9 w40 hk hm9 hr5 C => ⟨_, rfl, hk, ?_⟩
          by_cases hf : (flagS r4.st).1 = true
          · rw [if_pos hf]
            intro w57 L58 h57 g57
            refine (c_RText p.1 r5 524288 (by decide)).call (As := []) (C.hidL h57 g57) hr5.1 fun r6 m10 w60 hk hm10 hr6 C => ⟨_, rfl, hk, ?_⟩
            obtain ⟨q7, c7, w65, m11, hrun, hk8, hm11, hs8, C⟩ := bytes_of C (textS 524288 r5.st).1
            refine ⟨q7, _, c7, w65, hrun, hk8, fun w66 L67 h66 g66 => ?_⟩
            refine (c_REnd p.1 r6).call (As := []) (C.hidL h66 g66) trivial fun _ m12 w69 hk hm12 _ C => ⟨_, rfl, hk, ?_⟩
            have hu : unS l = unE (procS p.2.st).1 (procS r1.st).1 (uS M64 r2.st).1 (uS M64 r3.st).1 (flagS r4.st).1 (textS 524288 r5.st).1 (endS r6.st) := by
              rw [hu0, unT2, ← hr5.2]; rw [if_pos hf, ← hr6.2]
            by_cases he : endS r6.st = 0
            rotate_left
            · rw [if_pos (by simpa using he)]
              intro w80 h80
              exact retZ (by rw [hu, unE_err he]) C h80
            rw [if_neg (by simpa using he)]
            rw [he] at hu
            refine C.gives (c_Proc_Right _ _) fun w72 k72 C => ⟨_, rfl, k72, ?_⟩
            by_cases y1 : rightP ((procS p.2.st).1.1.toNat : Int) ((procS p.2.st).1.2 : Int) = true
            rotate_left
            · rw [if_neg (by simp [y1])]
              intro w80 h80
              exact retZ (by rw [hu, unE_no (fun h => y1 h.1)]) C h80
            rw [if_pos (by simp [y1])]
            refine C.gives (c_Proc_Right _ _) fun w76 k76 C => ⟨_, rfl, k76, ?_⟩
            by_cases y2 : rightP ((procS r1.st).1.1.toNat : Int) ((procS r1.st).1.2 : Int) = true
            rotate_left
            · rw [if_pos (by simp [y2])]
              intro w80 h80
              exact retZ (by rw [hu, unE_no (fun h => y2 h.2)]) C h80
            rw [if_neg (by simp [y2])]
            intro w78 h78
            rw [unE_ok ⟨y1, y2⟩] at hu
            rw [hu]
            exact ⟨⟨_, _, _, _, _, _, _, (q7, c7), (textS 524288 r5.st).1⟩, _, [], rfl, ⟨rfl, hs8.mono hm12⟩, (dropAll C).hid0 h78⟩
          · rw [if_neg hf]
            intro w42 L43 h42 g42
            refine (c_REnd p.1 r5).call (As := []) (C.hidL h42 g42) trivial fun _ m12 w69 hk hm12 _ C => ⟨_, rfl, hk, ?_⟩
            have hu : unS l = unE (procS p.2.st).1 (procS r1.st).1 (uS M64 r2.st).1 (uS M64 r3.st).1 (flagS r4.st).1 [] (endS r5.st) := by
              rw [hu0, unT2, ← hr5.2]; rw [if_neg hf]
            by_cases he : endS r5.st = 0
            rotate_left
            · rw [if_pos (by simpa using he)]
              intro w80 h80
              exact retZ (by rw [hu, unE_err he]) C h80
            rw [if_neg (by simpa using he)]
            rw [he] at hu
            refine C.gives (c_Proc_Right _ _) fun w72 k72 C => ⟨_, rfl, k72, ?_⟩
            by_cases y1 : rightP ((procS p.2.st).1.1.toNat : Int) ((procS p.2.st).1.2 : Int) = true
            rotate_left
            · rw [if_neg (by simp [y1])]
              intro w80 h80
              exact retZ (by rw [hu, unE_no (fun h => y1 h.1)]) C h80
            rw [if_pos (by simp [y1])]
            refine C.gives (c_Proc_Right _ _) fun w76 k76 C => ⟨_, rfl, k76, ?_⟩
            by_cases y2 : rightP ((procS r1.st).1.1.toNat : Int) ((procS r1.st).1.2 : Int) = true
            rotate_left
            · rw [if_pos (by simp [y2])]
              intro w80 h80
              exact retZ (by rw [hu, unE_no (fun h => y2 h.2)]) C h80
            rw [if_neg (by simp [y2])]
            intro w78 h78
            rw [unE_ok ⟨y1, y2⟩] at hu
            rw [hu]
            exact ⟨⟨_, _, _, _, _, _, _, (none, 0), []⟩, _, [], rfl, ⟨rfl, .nil ..⟩, (dropAll C).hid0 h78⟩
        · refine (c_rdwide p.1 r3).call (As := []) (C.hidL ha ga) hr3.1 fun r4 m8 w23 hk hm8 hr4 C => ⟨_, rfl, hk, facts_nil _ _, fun wb Lb hb gb => ?_⟩
          have hu0 : unS l = unT2 (procS p.2.st).1 (procS r1.st).1 (uS M64 r2.st).1 (uS M64 r3.st).1 r4.st := by
            rw [hun0, unT, ← hr1.2, ← hr2.2, ← hr3.2, ← hr4.2]
          refine (c_rdflag p.1 r4).call (As := []) (C.hidL hb gb) hr4.1 fun r5 m9 w40 hk hm9 hr5 C => ⟨_, rfl, hk, ?_⟩
          by_cases hf : (flagS r4.st).1 = true
          · rw [if_pos hf]
            intro w57 L58 h57 g57
            refine (c_RText p.1 r5 524288 (by decide)).call (As := []) (C.hidL h57 g57) hr5.1 fun r6 m10 w60 hk hm10 hr6 C => ⟨_, rfl, hk, ?_⟩
            obtain ⟨q7, c7, w65, m11, hrun, hk8, hm11, hs8, C⟩ := bytes_of C (textS 524288 r5.st).1
            refine ⟨q7, _, c7, w65, hrun, hk8, fun w66 L67 h66 g66 => ?_⟩
            refine (c_REnd p.1 r6).call (As := []) (C.hidL h66 g66) trivial fun _ m12 w69 hk hm12 _ C => ⟨_, rfl, hk, ?_⟩
            have hu : unS l = unE (procS p.2.st).1 (procS r1.st).1 (uS M64 r2.st).1 (uS M64 r3.st).1 (flagS r4.st).1 (textS 524288 r5.st).1 (endS r6.st) := by
              rw [hu0, unT2, ← hr5.2]; rw [if_pos hf, ← hr6.2]
            by_cases he : endS r6.st = 0
            rotate_left
            · rw [if_pos (by simpa using he)]
              intro w80 h80
              exact retZ (by rw [hu, unE_err he]) C h80
            rw [if_neg (by simpa using he)]
            rw [he] at hu
            refine C.gives (c_Proc_Right _ _) fun w72 k72 C => ⟨_, rfl, k72, ?_⟩
            by_cases y1 : rightP ((procS p.2.st).1.1.toNat : Int) ((procS p.2.st).1.2 : Int) = true
            rotate_left
            · rw [if_neg (by simp [y1])]
              intro w80 h80
              exact retZ (by rw [hu, unE_no (fun h => y1 h.1)]) C h80
            rw [if_pos (by simp [y1])]
            refine C.gives (c_Proc_Right _ _) fun w76 k76 C => ⟨_, rfl, k76, ?_⟩
            by_cases y2 : rightP ((procS r1.st).1.1.toNat : Int) ((procS r1.st).1.2 : Int) = true
            rotate_left
            · rw [if_pos (by simp [y2])]
              intro w80 h80
              exact retZ (by rw [hu, unE_no (fun h => y2 h.2)]) C h80
            rw [if_neg (by simp [y2])]
            intro w78 h78
            rw [unE_ok ⟨y1, y2⟩] at hu
            rw [hu]
            exact ⟨⟨_, _, _, _, _, _, _, (q7, c7), (textS 524288 r5.st).1⟩, _, [], rfl, ⟨rfl, hs8.mono hm12⟩, (dropAll C).hid0 h78⟩
          · rw [if_neg hf]
            intro w42 L43 h42 g42
            refine (c_REnd p.1 r5).call (As := []) (C.hidL h42 g42) trivial fun _ m12 w69 hk hm12 _ C => ⟨_, rfl, hk, ?_⟩
            have hu : unS l = unE (procS p.2.st).1 (procS r1.st).1 (uS M64 r2.st).1 (uS M64 r3.st).1 (flagS r4.st).1 [] (endS r5.st) := by
              rw [hu0, unT2, ← hr5.2]; rw [if_neg hf]
            by_cases he : endS r5.st = 0
            rotate_left
            · rw [if_pos (by simpa using he)]
              intro w80 h80
              exact retZ (by rw [hu, unE_err he]) C h80
            rw [if_neg (by simpa using he)]
            rw [he] at hu
            refine C.gives (c_Proc_Right _ _) fun w72 k72 C => ⟨_, rfl, k72, ?_⟩
            by_cases y1 : rightP ((procS p.2.st).1.1.toNat : Int) ((procS p.2.st).1.2 : Int) = true
            rotate_left
            · rw [if_neg (by simp [y1])]
              intro w80 h80
              exact retZ (by rw [hu, unE_no (fun h => y1 h.1)]) C h80
            rw [if_pos (by simp [y1])]
            refine C.gives (c_Proc_Right _ _) fun w76 k76 C => ⟨_, rfl, k76, ?_⟩
            by_cases y2 : rightP ((procS r1.st).1.1.toNat : Int) ((procS r1.st).1.2 : Int) = true
            rotate_left
            · rw [if_pos (by simp [y2])]
              intro w80 h80
              exact retZ (by rw [hu, unE_no (fun h => y2 h.2)]) C h80
            rw [if_neg (by simp [y2])]
            intro w78 h78
            rw [unE_ok ⟨y1, y2⟩] at hu
            rw [hu]
            exact ⟨⟨_, _, _, _, _, _, _, (none, 0), []⟩, _, [], rfl, ⟨rfl, .nil ..⟩, (dropAll C).hid0 h78⟩
      · refine (c_rdwide p.1 r2).call (As := []) (C.hidL ha ga) hr2.1 fun r3 m7 w22 hk hm7 hr3 C => ⟨_, rfl, hk, facts_nil _ _, ?_⟩
        refine (c_rdwide p.1 r3).call (As := []) C hr3.1 fun r4 m8 w23 hk hm8 hr4 C => ⟨_, rfl, hk, facts_nil _ _, fun wb Lb hb gb => ?_⟩
        have hu0 : unS l = unT2 (procS p.2.st).1 (procS r1.st).1 (uS M64 r2.st).1 (uS M64 r3.st).1 r4.st := by
          rw [hun0, unT, ← hr1.2, ← hr2.2, ← hr3.2, ← hr4.2]
        refine (c_rdflag p.1 r4).call (As := []) (C.hidL hb gb) hr4.1 fun r5 m9 w40 hk hm9 hr5 C => ⟨_, rfl, hk, ?_⟩
        by_cases hf : (flagS r4.st).1 = true
        · rw [if_pos hf]
          intro w57 L58 h57 g57
          refine (c_RText p.1 r5 524288 (by decide)).call (As := []) (C.hidL h57 g57) hr5.1 fun r6 m10 w60 hk hm10 hr6 C => ⟨_, rfl, hk, ?_⟩
          obtain ⟨q7, c7, w65, m11, hrun, hk8, hm11, hs8, C⟩ := bytes_of C (textS 524288 r5.st).1
          refine ⟨q7, _, c7, w65, hrun, hk8, fun w66 L67 h66 g66 => ?_⟩
          refine (c_REnd p.1 r6).call (As := []) (C.hidL h66 g66) trivial fun _ m12 w69 hk hm12 _ C => ⟨_, rfl, hk, ?_⟩
          have hu : unS l = unE (procS p.2.st).1 (procS r1.st).1 (uS M64 r2.st).1 (uS M64 r3.st).1 (flagS r4.st).1 (textS 524288 r5.st).1 (endS r6.st) := by
            rw [hu0, unT2, ← hr5.2]; rw [if_pos hf, ← hr6.2]
          by_cases he : endS r6.st = 0
          rotate_left
          · rw [if_pos (by simpa using he)]
            intro w80 h80
            exact retZ (by rw [hu, unE_err he]) C h80
          rw [if_neg (by simpa using he)]
          rw [he] at hu
          refine C.gives (c_Proc_Right _ _) fun w72 k72 C => ⟨_, rfl, k72, ?_⟩
          by_cases y1 : rightP ((procS p.2.st).1.1.toNat : Int) ((procS p.2.st).1.2 : Int) = true
          rotate_left
          · rw [if_neg (by simp [y1])]
            intro w80 h80
            exact retZ (by rw [hu, unE_no (fun h => y1 h.1)]) C h80
          rw [if_pos (by simp [y1])]
          refine C.gives (c_Proc_Right _ _) fun w76 k76 C => ⟨_, rfl, k76, ?_⟩
          by_cases y2 : rightP ((procS r1.st).1.1.toNat : Int) ((procS r1.st).1.2 : Int) = true
          rotate_left
          · rw [if_pos (by simp [y2])]
            intro w80 h80
            exact retZ (by rw [hu, unE_no (fun h => y2 h.2)]) C h80
          rw [if_neg (by simp [y2])]
          intro w78 h78
          rw [unE_ok ⟨y1, y2⟩] at hu
          rw [hu]
          exact ⟨⟨_, _, _, _, _, _, _, (q7, c7), (textS 524288 r5.st).1⟩, _, [], rfl, ⟨rfl, hs8.mono hm12⟩, (dropAll C).hid0 h78⟩
        · rw [if_neg hf]
          intro w42 L43 h42 g42
          refine (c_REnd p.1 r5).call (As := []) (C.hidL h42 g42) trivial fun _ m12 w69 hk hm12 _ C => ⟨_, rfl, hk, ?_⟩
          have hu : unS l = unE (procS p.2.st).1 (procS r1.st).1 (uS M64 r2.st).1 (uS M64 r3.st).1 (flagS r4.st).1 [] (endS r5.st) := by
            rw [hu0, unT2, ← hr5.2]; rw [if_neg hf]
          by_cases he : endS r5.st = 0
          rotate_left
          · rw [if_pos (by simpa using he)]
            intro w80 h80
            exact retZ (by rw [hu, unE_err he]) C h80
          rw [if_neg (by simpa using he)]
          rw [he] at hu
          refine C.gives (c_Proc_Right _ _) fun w72 k72 C => ⟨_, rfl, k72, ?_⟩
          by_cases y1 : rightP ((procS p.2.st).1.1.toNat : Int) ((procS p.2.st).1.2 : Int) = true
          rotate_left
          · rw [if_neg (by simp [y1])]
            intro w80 h80
            exact retZ (by rw [hu, unE_no (fun h => y1 h.1)]) C h80
          rw [if_pos (by simp [y1])]
          refine C.gives (c_Proc_Right _ _) fun w76 k76 C => ⟨_, rfl, k76, ?_⟩
          by_cases y2 : rightP ((procS r1.st).1.1.toNat : Int) ((procS r1.st).1.2 : Int) = true
          rotate_left
          · rw [if_pos (by simp [y2])]
            intro w80 h80
            exact retZ (by rw [hu, unE_no (fun h => y2 h.2)]) C h80
          rw [if_neg (by simp [y2])]
          intro w78 h78
          rw [unE_ok ⟨y1, y2⟩] at hu
          rw [hu]
          exact ⟨⟨_, _, _, _, _, _, _, (none, 0), []⟩, _, [], rfl, ⟨rfl, .nil ..⟩, (dropAll C).hid0 h78⟩
    · refine (c_GetProc p.1 r1).call (As := []) (C.hidL ha ga) hr1.1 fun r2 m6 w21 hk hm6 hr2 C => ⟨_, _, rfl, hk, facts_nil _ _, ?_⟩
      refine (c_rdwide p.1 r2).call (As := []) C hr2.1 fun r3 m7 w22 hk hm7 hr3 C => ⟨_, rfl, hk, facts_nil _ _, ?_⟩
      refine (c_rdwide p.1 r3).call (As := []) C hr3.1 fun r4 m8 w23 hk hm8 hr4 C => ⟨_, rfl, hk, facts_nil _ _, fun wb Lb hb gb => ?_⟩
      have hu0 : unS l = unT2 (procS p.2.st).1 (procS r1.st).1 (uS M64 r2.st).1 (uS M64 r3.st).1 r4.st := by
        rw [hun0, unT, ← hr1.2, ← hr2.2, ← hr3.2, ← hr4.2]
      refine (c_rdflag p.1 r4).call (As := []) (C.hidL hb gb) hr4.1 fun r5 m9 w40 hk hm9 hr5 C => ⟨_, rfl, hk, ?_⟩
      by_cases hf : (flagS r4.st).1 = true
      · rw [if_pos hf]
        intro w57 L58 h57 g57
        refine (c_RText p.1 r5 524288 (by decide)).call (As := []) (C.hidL h57 g57) hr5.1 fun r6 m10 w60 hk hm10 hr6 C => ⟨_, rfl, hk, ?_⟩
        obtain ⟨q7, c7, w65, m11, hrun, hk8, hm11, hs8, C⟩ := bytes_of C (textS 524288 r5.st).1
        refine ⟨q7, _, c7, w65, hrun, hk8, fun w66 L67 h66 g66 => ?_⟩
        refine (c_REnd p.1 r6).call (As := []) (C.hidL h66 g66) trivial fun _ m12 w69 hk hm12 _ C => ⟨_, rfl, hk, ?_⟩
        have hu : unS l = unE (procS p.2.st).1 (procS r1.st).1 (uS M64 r2.st).1 (uS M64 r3.st).1 (flagS r4.st).1 (textS 524288 r5.st).1 (endS r6.st) := by
          rw [hu0, unT2, ← hr5.2]; rw [if_pos hf, ← hr6.2]
        by_cases he : endS r6.st = 0
        rotate_left
        · rw [if_pos (by simpa using he)]
          intro w80 h80
          exact retZ (by rw [hu, unE_err he]) C h80
        rw [if_neg (by simpa using he)]
        rw [he] at hu
        refine C.gives (c_Proc_Right _ _) fun w72 k72 C => ⟨_, rfl, k72, ?_⟩
        by_cases y1 : rightP ((procS p.2.st).1.1.toNat : Int) ((procS p.2.st).1.2 : Int) = true
        rotate_left
        · rw [if_neg (by simp [y1])]
          intro w80 h80
          exact retZ (by rw [hu, unE_no (fun h => y1 h.1)]) C h80
        rw [if_pos (by simp [y1])]
        refine C.gives (c_Proc_Right _ _) fun w76 k76 C => ⟨_, rfl, k76, ?_⟩
        by_cases y2 : rightP ((procS r1.st).1.1.toNat : Int) ((procS r1.st).1.2 : Int) = true
        rotate_left
        · rw [if_pos (by simp [y2])]
          intro w80 h80
          exact retZ (by rw [hu, unE_no (fun h => y2 h.2)]) C h80
        rw [if_neg (by simp [y2])]
        intro w78 h78
        rw [unE_ok ⟨y1, y2⟩] at hu
        rw [hu]
        exact ⟨⟨_, _, _, _, _, _, _, (q7, c7), (textS 524288 r5.st).1⟩, _, [], rfl, ⟨rfl, hs8.mono hm12⟩, (dropAll C).hid0 h78⟩
      · rw [if_neg hf]
        intro w42 L43 h42 g42
        refine (c_REnd p.1 r5).call (As := []) (C.hidL h42 g42) trivial fun _ m12 w69 hk hm12 _ C => ⟨_, rfl, hk, ?_⟩
        have hu : unS l = unE (procS p.2.st).1 (procS r1.st).1 (uS M64 r2.st).1 (uS M64 r3.st).1 (flagS r4.st).1 [] (endS r5.st) := by
          rw [hu0, unT2, ← hr5.2]; rw [if_neg hf]
        by_cases he : endS r5.st = 0
        rotate_left
        · rw [if_pos (by simpa using he)]
          intro w80 h80
          exact retZ (by rw [hu, unE_err he]) C h80
        rw [if_neg (by simpa using he)]
        rw [he] at hu
        refine C.gives (c_Proc_Right _ _) fun w72 k72 C => ⟨_, rfl, k72, ?_⟩
        by_cases y1 : rightP ((procS p.2.st).1.1.toNat : Int) ((procS p.2.st).1.2 : Int) = true
        rotate_left
        · rw [if_neg (by simp [y1])]
          intro w80 h80
          exact retZ (by rw [hu, unE_no (fun h => y1 h.1)]) C h80
        rw [if_pos (by simp [y1])]
        refine C.gives (c_Proc_Right _ _) fun w76 k76 C => ⟨_, rfl, k76, ?_⟩
        by_cases y2 : rightP ((procS r1.st).1.1.toNat : Int) ((procS r1.st).1.2 : Int) = true
        rotate_left
        · rw [if_pos (by simp [y2])]
          intro w80 h80
          exact retZ (by rw [hu, unE_no (fun h => y2 h.2)]) C h80
        rw [if_neg (by simp [y2])]
        intro w78 h78
        rw [unE_ok ⟨y1, y2⟩] at hu
        rw [hu]
        exact ⟨⟨_, _, _, _, _, _, _, (none, 0), []⟩, _, [], rfl, ⟨rfl, .nil ..⟩, (dropAll C).hid0 h78⟩
  · have hun0 : unS l = unT p.2.st := by rw [hun, hr0.2]
    intro w21 L22 h21 g21
    refine (c_GetProc p.1 p.2).call (As := []) (C.hidL h21 g21) hr0.1 fun r1 m5 w20 hk hm5 hr1 C => ⟨_, _, rfl, hk, facts_nil _ _, ?_⟩
    refine (c_GetProc p.1 r1).call (As := []) C hr1.1 fun r2 m6 w21 hk hm6 hr2 C => ⟨_, _, rfl, hk, facts_nil _ _, ?_⟩
    refine (c_rdwide p.1 r2).call (As := []) C hr2.1 fun r3 m7 w22 hk hm7 hr3 C => ⟨_, rfl, hk, facts_nil _ _, ?_⟩
    refine (c_rdwide p.1 r3).call (As := []) C hr3.1 fun r4 m8 w23 hk hm8 hr4 C => ⟨_, rfl, hk, facts_nil _ _, fun wb Lb hb gb => ?_⟩
    have hu0 : unS l = unT2 (procS p.2.st).1 (procS r1.st).1 (uS M64 r2.st).1 (uS M64 r3.st).1 r4.st := by
      rw [hun0, unT, ← hr1.2, ← hr2.2, ← hr3.2, ← hr4.2]
    refine (c_rdflag p.1 r4).call (As := []) (C.hidL hb gb) hr4.1 fun r5 m9 w40 hk hm9 hr5 C => ⟨_, rfl, hk, ?_⟩
    by_cases hf : (flagS r4.st).1 = true
    · rw [if_pos hf]
      intro w57 L58 h57 g57
      refine (c_RText p.1 r5 524288 (by decide)).call (As := []) (C.hidL h57 g57) hr5.1 fun r6 m10 w60 hk hm10 hr6 C => ⟨_, rfl, hk, ?_⟩
      obtain ⟨q7, c7, w65, m11, hrun, hk8, hm11, hs8, C⟩ := bytes_of C (textS 524288 r5.st).1
      refine ⟨q7, _, c7, w65, hrun, hk8, fun w66 L67 h66 g66 => ?_⟩
      refine (c_REnd p.1 r6).call (As := []) (C.hidL h66 g66) trivial fun _ m12 w69 hk hm12 _ C => ⟨_, rfl, hk, ?_⟩
      have hu : unS l = unE (procS p.2.st).1 (procS r1.st).1 (uS M64 r2.st).1 (uS M64 r3.st).1 (flagS r4.st).1 (textS 524288 r5.st).1 (endS r6.st) := by
        rw [hu0, unT2, ← hr5.2]; rw [if_pos hf, ← hr6.2]
      by_cases he : endS r6.st = 0
      rotate_left
      · rw [if_pos (by simpa using he)]
        intro w80 h80
        exact retZ (by rw [hu, unE_err he]) C h80
      rw [if_neg (by simpa using he)]
      rw [he] at hu
      refine C.gives (c_Proc_Right _ _) fun w72 k72 C => ⟨_, rfl, k72, ?_⟩
      by_cases y1 : rightP ((procS p.2.st).1.1.toNat : Int) ((procS p.2.st).1.2 : Int) = true
      rotate_left
      · rw [if_neg (by simp [y1])]
        intro w80 h80
        exact retZ (by rw [hu, unE_no (fun h => y1 h.1)]) C h80
      rw [if_pos (by simp [y1])]
      refine C.gives (c_Proc_Right _ _) fun w76 k76 C => ⟨_, rfl, k76, ?_⟩
      by_cases y2 : rightP ((procS r1.st).1.1.toNat : Int) ((procS r1.st).1.2 : Int) = true
      rotate_left
      · rw [if_pos (by simp [y2])]
        intro w80 h80
        exact retZ (by rw [hu, unE_no (fun h => y2 h.2)]) C h80
      rw [if_neg (by simp [y2])]
      intro w78 h78
      rw [unE_ok ⟨y1, y2⟩] at hu
      rw [hu]
      exact ⟨⟨_, _, _, _, _, _, _, (q7, c7), (textS 524288 r5.st).1⟩, _, [], rfl, ⟨rfl, hs8.mono hm12⟩, (dropAll C).hid0 h78⟩
    · rw [if_neg hf]
      intro w42 L43 h42 g42
      refine (c_REnd p.1 r5).call (As := []) (C.hidL h42 g42) trivial fun _ m12 w69 hk hm12 _ C => ⟨_, rfl, hk, ?_⟩
      have hu : unS l = unE (procS p.2.st).1 (procS r1.st).1 (uS M64 r2.st).1 (uS M64 r3.st).1 (flagS r4.st).1 [] (endS r5.st) := by
        rw [hu0, unT2, ← hr5.2]; rw [if_neg hf]
      by_cases he : endS r5.st = 0
      rotate_left
      · rw [if_pos (by simpa using he)]
        intro w80 h80
        exact retZ (by rw [hu, unE_err he]) C h80
      rw [if_neg (by simpa using he)]
      rw [he] at hu
      refine C.gives (c_Proc_Right _ _) fun w72 k72 C => ⟨_, rfl, k72, ?_⟩
      by_cases y1 : rightP ((procS p.2.st).1.1.toNat : Int) ((procS p.2.st).1.2 : Int) = true
      rotate_left
      · rw [if_neg (by simp [y1])]
        intro w80 h80
        exact retZ (by rw [hu, unE_no (fun h => y1 h.1)]) C h80
      rw [if_pos (by simp [y1])]
      refine C.gives (c_Proc_Right _ _) fun w76 k76 C => ⟨_, rfl, k76, ?_⟩
      by_cases y2 : rightP ((procS r1.st).1.1.toNat : Int) ((procS r1.st).1.2 : Int) = true
      rotate_left
      · rw [if_pos (by simp [y2])]
        intro w80 h80
        exact retZ (by rw [hu, unE_no (fun h => y2 h.2)]) C h80
      rw [if_neg (by simp [y2])]
      intro w78 h78
      rw [unE_ok ⟨y1, y2⟩] at hu
      rw [hu]
      exact ⟨⟨_, _, _, _, _, _, _, (none, 0), []⟩, _, [], rfl, ⟨rfl, .nil ..⟩, (dropAll C).hid0 h78⟩
theorem sv (l : List UInt8) : IntKind.wrap .u8 (((sumB l).toNat : Int).fdiv 16777216) = ((UInt8.ofNat ((sumB l).toNat / 16777216)).toNat : Int) ∧ IntKind.wrap .u8 (((sumB l).toNat : Int).fdiv 65536) = ((UInt8.ofNat ((sumB l).toNat / 65536)).toNat : Int) ∧ IntKind.wrap .u8 (((sumB l).toNat : Int).fdiv 256) = ((UInt8.ofNat ((sumB l).toNat / 256)).toNat : Int) ∧ IntKind.wrap .u8 ((sumB l).toNat : Int) = ((UInt8.ofNat (sumB l).toNat).toNat : Int) := by
  have h := sum4V l
  have h' : byV (sum4 l) = [Value.int .u8 ((UInt8.ofNat ((sumB l).toNat / 16777216)).toNat : Int), .int .u8 ((UInt8.ofNat ((sumB l).toNat / 65536)).toNat : Int), .int .u8 ((UInt8.ofNat ((sumB l).toNat / 256)).toNat : Int), .int .u8 ((UInt8.ofNat (sumB l).toNat).toNat : Int)] := rfl
  rw [h'] at h
  simpa only [List.cons.injEq, Value.int.injEq, true_and, and_true] using h
theorem drop4 {l : List UInt8} {n : Nat} (hn : l.length = n + 4) : l = l.take n ++ [l[n], l[n + 1], l[n + 2], l[n + 3]] := by
  have h0 : l.drop n = [l[n], l[n + 1], l[n + 2], l[n + 3]] := by
    rw [drop_cons (show n < l.length by omega), drop_cons (show n + 1 < l.length by omega), drop_cons (show n + 1 + 1 < l.length by omega), drop_cons (show n + 1 + 1 + 1 < l.length by omega), List.drop_of_length_le (by omega)]
  rw [← h0, List.take_append_drop]
theorem sum_split {l : List UInt8} {n : Nat} (hn : l.length = n + 4) : sumd (l.take n) = l ↔ (l[n] = UInt8.ofNat ((sumB (l.take n)).toNat / 16777216) ∧ l[n + 1] = UInt8.ofNat ((sumB (l.take n)).toNat / 65536) ∧ l[n + 2] = UInt8.ofNat ((sumB (l.take n)).toNat / 256) ∧ l[n + 3] = UInt8.ofNat (sumB (l.take n)).toNat) := by
  have hd := drop4 hn
  constructor
  · intro h
    have h2 : l.take n ++ sum4 (l.take n) = l.take n ++ [l[n], l[n + 1], l[n + 2], l[n + 3]] := by rw [← hd]; exact h
    have h3 := List.append_cancel_left h2
    simp only [sum4, List.cons.injEq, and_true] at h3
    exact ⟨h3.1.symm, h3.2.1.symm, h3.2.2.1.symm, h3.2.2.2.symm⟩
  · rintro ⟨h1, h2, h3, h4⟩
    have : sumd (l.take n) = l.take n ++ [l[n], l[n + 1], l[n + 2], l[n + 3]] := by rw [sumd, sum4, h1, h2, h3, h4]
    rw [this, ← hd]
theorem u8_ne {a b : UInt8} : (((a.toNat : Int) != (b.toNat : Int)) = false) ↔ a = b := by
  simp only [bne_eq_false_iff_eq]
  constructor
  · intro h; exact UInt8.toNat_inj.1 (by omega)
  · intro h; rw [h]
theorem bS_err {s : St} (h : (bS s).1.toNat > 1) : (bS s).2.2 = 0 := by
  unfold bS at h ⊢
  split at h
  · exact absurd h (show ¬ (0 : UInt8).toNat > 1 by decide)
  · rename_i h0
    rw [if_neg h0]
    split at h
    · exact absurd h (show ¬ (0 : UInt8).toNat > 1 by decide)
    · rfl
theorem one_iff (c : UInt8) : ((((c.toNat : Nat) : Int) == 1) = true) ↔ (c == 1) = true := by
  simp only [beq_iff_eq]
  constructor
  · intro h; apply UInt8.toNat_inj.1; show c.toNat = 1; omega
  · intro h; rw [h]; rfl
theorem unT2_b (a b : UInt8 × Nat) (sq ak : Nat) (s : St) : unT2 a b sq ak s = (let c := (bS s).1; let t := if (c == 1) = true then textS 524288 (bS s).2 else ([], (bS s).2); if endS t.2 ≠ 0 then (zE, endS t.2) else if c.toNat > 1 then (zE, 6) else unE a b sq ak (c == 1) t.1 0) := by
  rw [unT2, flagS]
  dsimp only
  by_cases h1 : ((bS s).1 == 1) = true
  · have hc : (bS s).1 = 1 := by simpa using h1
    have hn : ¬ (bS s).1.toNat > 1 := by rw [hc]; decide
    rw [if_neg hn, if_pos h1]
    by_cases he : endS (textS 524288 (bS s).2).2 = 0
    · rw [if_neg (by simpa using he), if_neg hn, he]
    · rw [if_pos he, unE_err he]
  · rw [if_neg h1, if_neg h1]
    by_cases hn : (bS s).1.toNat > 1
    · rw [if_pos hn]
      have h0 := bS_err hn
      have e6 : endS (failS (bS s).2 6) = 6 := by rw [failS, if_pos h0]; rfl
      dsimp only
      rw [e6, unE_err (by decide)]
      by_cases he : endS (bS s).2 = 0
      · rw [if_neg (by simpa using he), if_pos hn]
      · rw [if_pos he]
        have : endS (bS s).2 = 6 := by
          unfold endS at he ⊢
          rw [if_neg (by simpa using h0)] at he ⊢
          split at he
          · exact absurd rfl he
          · rename_i h; rw [if_neg h]
        rw [this]
    · rw [if_neg hn]
      dsimp only
      by_cases he : endS (bS s).2 = 0
      · rw [if_neg (by simpa using he), if_neg hn, he]
      · rw [if_pos he, unE_err he]
theorem c_r7Unframe (q : Sl) (l : List UInt8) (hl : l.length ≤ 100000000) (hq : l.length ≤ q.2) : Ctr Try.prog 22 #[slV q l.length] (fun m => bsM m q l) [] (fun p : Pk => .tuple #[.agg p.row.toArray, .int .i64 (unS l).2]) (fun p m => p.er = (unS l).1 ∧ bsM m p.q p.body) (fun _ => []) := by
  refine Ctr.mk fun w F m C h => x_r7Unframe _ _ _ w _ ?_
  by_cases hbig : l.length > 524288
  · rw [if_pos (by simp only [decide_eq_true_eq]; omega)]
    intro w1 h1; exact retZ (by rw [unS, if_pos hbig]) C h1
  rw [if_neg (by simp only [decide_eq_true_eq]; omega)]
  have e4 : IntKind.wrap .i64 ((l.length : Int) - 4) = (l.length : Int) - 4 := w_i64 (by omega) (by omega)
  rw [e4]
  by_cases h4 : l.length < 4
  · rw [if_pos (by simp only [decide_eq_true_eq]; omega)]
    intro w1 h1; exact retZ (by rw [unS, if_neg hbig, if_pos h4]) C h1
  rw [if_neg (by simp only [decide_eq_true_eq]; omega)]
  refine ⟨by omega, by omega, fun w1 L2 h1 g1 => ?_⟩
  have e5 : ((l.length : Int) - 4).toNat = l.length - 4 := by omega
  have e51 : IntKind.wrap .i64 ((l.length : Int) - 4 + 1) = (l.length : Int) - 4 + 1 := w_i64 (by omega) (by omega)
  have e52 : IntKind.wrap .i64 ((l.length : Int) - 4 + 2) = (l.length : Int) - 4 + 2 := w_i64 (by omega) (by omega)
  have e53 : IntKind.wrap .i64 ((l.length : Int) - 4 + 3) = (l.length : Int) - 4 + 3 := w_i64 (by omega) (by omega)
  have e61 : ((l.length : Int) - 4 + 1).toNat = l.length - 4 + 1 := by omega
  have e62 : ((l.length : Int) - 4 + 2).toNat = l.length - 4 + 2 := by omega
  have e63 : ((l.length : Int) - 4 + 3).toNat = l.length - 4 + 3 := by omega
  rw [e5, cutA_zero, e51, e52, e53, e61, e62, e63]
  have hn4 : l.length = (l.length - 4) + 4 := by omega
  have hkb := bs_take h (l.length - 4) q.2 (by omega)
  have hun : unS l = if sumd (l.take (l.length - 4)) = l then unT (l.take (l.length - 4), 0) else (zE, 7) := by rw [unS, if_neg hbig, if_neg h4]
  have hsp := sum_split hn4
  have hkl : l.length - 4 = (l.take (l.length - 4)).length := by rw [List.length_take]; omega
  obtain ⟨a, ha, hc0⟩ := bs_cell h (j := l.length - 4) (by omega)
  obtain ⟨a1, ha1, hc1⟩ := bs_cell h (j := l.length - 4 + 1) (by omega)
  obtain ⟨a2, ha2, hc2⟩ := bs_cell h (j := l.length - 4 + 2) (by omega)
  obtain ⟨a3, ha3, hc3⟩ := bs_cell h (j := l.length - 4 + 3) (by omega)
  have ea1 : a1 = a := by rw [ha] at ha1; exact (Option.some.inj ha1).symm
  have ea2 : a2 = a := by rw [ha] at ha2; exact (Option.some.inj ha2).symm
  have ea3 : a3 = a := by rw [ha] at ha3; exact (Option.some.inj ha3).symm
  subst ea1; subst ea2; subst ea3
  generalize hkk : l.take (l.length - 4) = k at hkb hun hkl hsp
  have hk0 : k.length ≤ 100000000 := by omega
  have hcall := c_r1Sum (q.1, q.2) k (by omega)
  rw [← hkl] at hcall
  refine hcall.call (As := []) (C.hidL h1 g1) hkb fun _ m1 w4 hk hm1 _ C => ⟨_, rfl, hk, by omega, by omega, ?_⟩
  obtain ⟨s0, s1, s2, s3⟩ := sv k
  rw [ha, onSome_some]
  refine ⟨_, C.cell (hm1 _ _ hc0), C.cellL (hm1 _ _ hc0), ?_⟩
  rw [s0]
  by_cases b0 : l[l.length - 4] = UInt8.ofNat ((sumB k).toNat / 16777216)
  rotate_left
  · rw [if_neg (by simp only [beq_iff_eq, u8_ne]; exact b0)]
    intro w80 h80; exact retZ (by rw [hun, if_neg (fun hh => b0 (hsp.1 hh).1)]) C h80
  rw [if_pos (by simp only [beq_iff_eq, u8_ne]; exact b0)]
  refine ⟨by omega, by omega, ?_⟩
  rw [onSome_some]
  refine ⟨_, C.cell (hm1 _ _ hc1), C.cellL (hm1 _ _ hc1), ?_⟩
  rw [s1, Bool.false_or]
  by_cases b1 : l[l.length - 4 + 1] = UInt8.ofNat ((sumB k).toNat / 65536)
  rotate_left
  · rw [if_neg (by simp only [beq_iff_eq, u8_ne]; exact b1)]
    intro w80 h80; exact retZ (by rw [hun, if_neg (fun hh => b1 (hsp.1 hh).2.1)]) C h80
  rw [if_pos (by simp only [beq_iff_eq, u8_ne]; exact b1)]
  refine ⟨by omega, by omega, ?_⟩
  rw [onSome_some]
  refine ⟨_, C.cell (hm1 _ _ hc2), C.cellL (hm1 _ _ hc2), ?_⟩
  rw [s2, Bool.false_or]
  by_cases b2 : l[l.length - 4 + 2] = UInt8.ofNat ((sumB k).toNat / 256)
  rotate_left
  · rw [if_neg (by simp only [beq_iff_eq, u8_ne]; exact b2)]
    intro w80 h80; exact retZ (by rw [hun, if_neg (fun hh => b2 (hsp.1 hh).2.2.1)]) C h80
  rw [if_pos (by simp only [beq_iff_eq, u8_ne]; exact b2)]
  refine ⟨by omega, by omega, ?_⟩
  rw [onSome_some]
  refine ⟨_, C.cell (hm1 _ _ hc3), C.cellL (hm1 _ _ hc3), ?_⟩
  rw [s3, Bool.false_or]
  by_cases b3 : l[l.length - 4 + 3] = UInt8.ofNat (sumB k).toNat
  rotate_left
  · rw [if_pos (by rw [← Bool.not_eq_false, u8_ne]; exact b3)]
    intro w80 h80; exact retZ (by rw [hun, if_neg (fun hh => b3 (hsp.1 hh).2.2.2)]) C h80
  rw [if_neg (by rw [Bool.not_eq_true, u8_ne]; exact b3)]
  refine ⟨by omega, by omega, ?_⟩
  rw [if_pos (hsp.2 ⟨b0, b1, b2, b3⟩)] at hun
  clear hcall s0 s1 s2 s3 b0 b1 b2 b3 hsp hc0 hc1 hc2 hc3
  rw [hkl]
  rw [← ha]
  obtain ⟨q2, c2, w20, hr, hk2, C⟩ := ow_app0 (ow_new C) (hkb.mono hm1) (by omega)
  have hcap := C.slCap.1
  obtain ⟨m2, hm2, hs2, C⟩ := C.slShare
  refine ⟨q2, _, c2, w20, hr, hk2, ?_⟩
  have C0 : Ctx F m w (w20.alloc (.cells #[.slice q2 k.length c2, .int .i64 0] 143)) L2 m2 [r1A w20.heap.size ⟨(q2, c2), k, 0⟩] := C.alloc [.slice q2 k.length c2, .int .i64 0] 143
  obtain ⟨p, hp⟩ : ∃ p : Nat × Rd1, p = (w20.heap.size, ⟨(q2, c2), k, 0⟩) := ⟨_, rfl⟩
  have hr0 : p.2.ok m2 ∧ p.2.st = (k, 0) := by rw [hp]; exact ⟨⟨hs2, hk0, hcap⟩, st0 (r := ⟨_, _, _⟩) rfl⟩
  have hp1 : w20.heap.size = p.1 := by rw [hp]
  have hp2 : (⟨(q2, c2), k, 0⟩ : Rd1) = p.2 := by rw [hp]
  rw [hp2, hp1] at C0
  rw [hp1]
  clear hp hp1 hp2
  have hun0 : unS l = unT p.2.st := by rw [hun, hr0.2]
  refine (c_r2GetProc p.1 p.2).call (As := []) C0 hr0.1 fun r1 m5 w22 hk hm5 hr1 C => ⟨_, _, rfl, hk, fun wa La ha ga => ?_⟩
  refine (c_r2GetProc p.1 r1).call (As := []) (C.hidL ha ga) hr1.1 fun r2 m6 w23 hk hm6 hr2 C => ⟨_, _, rfl, hk, fun wb Lb hb gb => ?_⟩
  refine (c_r1U p.1 r2 M64 (by decide)).call (As := []) (C.hidL hb gb) hr2.1 fun r3 m7 w24 hk hm7 hr3 C => ⟨_, rfl, hk, fun wc Lc hc gc => ?_⟩
  refine (c_r1U p.1 r3 M64 (by decide)).call (As := []) (C.hidL hc gc) hr3.1 fun r4 m8 w25 hk hm8 hr4 C => ⟨_, rfl, hk, fun wd Ld hd gd => ?_⟩
  refine (c_r1B p.1 r4).call (As := []) (C.hidL hd gd) hr4.1 fun r5 m9 w26 hk hm9 hr5 C => ⟨_, rfl, hk, ?_⟩
  have hu0 : unS l = unT2 (procS p.2.st).1 (procS r1.st).1 (uS M64 r2.st).1 (uS M64 r3.st).1 r4.st := by
    rw [hun0, unT, ← hr1.2, ← hr2.2, ← hr3.2, ← hr4.2]
  rw [unT2_b, ← hr5.2] at hu0
  dsimp only at hu0
  by_cases hf : ((bS r4.st).1 == 1) = true
  · rw [if_pos ((one_iff _).2 hf)]
    intro w57 L58 h57 g57
    refine (c_r1RText p.1 r5 524288 (by decide)).call (As := []) (C.hidL h57 g57) hr5.1 fun r6 m10 w60 hk hm10 hr6 C => ⟨_, rfl, hk, ?_⟩
    obtain ⟨q7, c7, w65, m11, hrun, hk8, hm11, hs8, C⟩ := bytes_of C (textS 524288 r5.st).1
    refine ⟨q7, _, c7, w65, hrun, hk8, fun w66 L67 h66 g66 => ?_⟩
    refine (c_r1End p.1 r6).call (As := []) (C.hidL h66 g66) trivial fun _ m12 w69 hk hm12 _ C => ⟨_, rfl, hk, ?_⟩
    rw [if_pos hf, ← hr6.2] at hu0
    by_cases he : endS r6.st = 0
    rotate_left
    · rw [if_pos (by simpa using he)]
      intro w80 h80
      exact retZ (by rw [hu0, if_pos he]) C h80
    rw [if_neg (by simpa using he)]
    rw [if_neg (by simpa using he)] at hu0
    by_cases hn : (bS r4.st).1.toNat > 1
    · rw [if_neg (by simp only [beq_iff_eq, decide_eq_false_iff_not]; omega)]
      intro w80 h80
      exact retZ (by rw [hu0, if_pos hn]) C h80
    rw [if_pos (by simp only [beq_iff_eq, decide_eq_false_iff_not]; omega)]
    rw [if_neg hn] at hu0
    refine C.gives (c_ref_RightProc _ _) fun w72 k72 C => ⟨_, rfl, k72, ?_⟩
    by_cases y1 : rightP ((procS p.2.st).1.1.toNat : Int) ((procS p.2.st).1.2 : Int) = true
    rotate_left
    · rw [if_neg (by simp [y1])]
      intro w80 h80
      exact retZ (by rw [hu0, unE_no (fun h => y1 h.1)]) C h80
    rw [if_pos (by simp [y1])]
    refine C.gives (c_ref_RightProc _ _) fun w76 k76 C => ⟨_, rfl, k76, ?_⟩
    by_cases y2 : rightP ((procS r1.st).1.1.toNat : Int) ((procS r1.st).1.2 : Int) = true
    rotate_left
    · rw [if_pos (by simp [y2])]
      intro w80 h80
      exact retZ (by rw [hu0, unE_no (fun h => y2 h.2)]) C h80
    rw [if_neg (by simp [y2])]
    intro w78 h78
    rw [unE_ok ⟨y1, y2⟩] at hu0
    have hbb : ((((bS r4.st).1.toNat : Nat) : Int) == 1) = ((bS r4.st).1 == 1) := by rw [Bool.eq_iff_iff]; exact one_iff _
    rw [hu0, hbb]
    exact ⟨⟨_, _, _, _, _, _, _, (q7, c7), (textS 524288 r5.st).1⟩, _, [], rfl, ⟨rfl, hs8.mono hm12⟩, (dropAll C).hid0 h78⟩
  · rw [if_neg (fun h => hf ((one_iff _).1 h))]
    intro w42 L43 h42 g42
    refine (c_r1End p.1 r5).call (As := []) (C.hidL h42 g42) trivial fun _ m12 w69 hk hm12 _ C => ⟨_, rfl, hk, ?_⟩
    rw [if_neg hf] at hu0
    by_cases he : endS r5.st = 0
    rotate_left
    · rw [if_pos (by simpa using he)]
      intro w80 h80
      exact retZ (by rw [hu0, if_pos he]) C h80
    rw [if_neg (by simpa using he)]
    rw [if_neg (by simpa using he)] at hu0
    by_cases hn : (bS r4.st).1.toNat > 1
    · rw [if_neg (by simp only [beq_iff_eq, decide_eq_false_iff_not]; omega)]
      intro w80 h80
      exact retZ (by rw [hu0, if_pos hn]) C h80
    rw [if_pos (by simp only [beq_iff_eq, decide_eq_false_iff_not]; omega)]
    rw [if_neg hn] at hu0
    refine C.gives (c_ref_RightProc _ _) fun w72 k72 C => ⟨_, rfl, k72, ?_⟩
    by_cases y1 : rightP ((procS p.2.st).1.1.toNat : Int) ((procS p.2.st).1.2 : Int) = true
    rotate_left
    · rw [if_neg (by simp [y1])]
      intro w80 h80
      exact retZ (by rw [hu0, unE_no (fun h => y1 h.1)]) C h80
    rw [if_pos (by simp [y1])]
    refine C.gives (c_ref_RightProc _ _) fun w76 k76 C => ⟨_, rfl, k76, ?_⟩
    by_cases y2 : rightP ((procS r1.st).1.1.toNat : Int) ((procS r1.st).1.2 : Int) = true
    rotate_left
    · rw [if_pos (by simp [y2])]
      intro w80 h80
      exact retZ (by rw [hu0, unE_no (fun h => y2 h.2)]) C h80
    rw [if_neg (by simp [y2])]
    intro w78 h78
    rw [unE_ok ⟨y1, y2⟩] at hu0
    have hbb : ((((bS r4.st).1.toNat : Nat) : Int) == 1) = ((bS r4.st).1 == 1) := by rw [Bool.eq_iff_iff]; exact one_iff _
    rw [hu0, hbb]
    exact ⟨⟨_, _, _, _, _, _, _, (none, 0), []⟩, _, [], rfl, ⟨rfl, .nil ..⟩, (dropAll C).hid0 h78⟩
end Go.Proofs
