import Derived.Test.YtpijekgiblcfhaaU14a
set_option linter.unusedVariables false
set_option linter.unusedSimpArgs false
set_option maxRecDepth 10000
namespace Go.Proofs
open Go X RowKit
abbrev noMem : Mem → Prop := fun _ => True
structure Rw where (id : I) (ended : Bool) (code : Int) (val : ByteArray)
@[reducible] def Rw.V (r : Rw) : Value := .agg #[.int .u8 r.id.n, .int .u16 r.id.l, .int .u32 r.id.s, .int .u8 r.id.d, .int .u8 r.id.g0, .int .u8 r.id.i0, .int .u8 r.id.g1, .int .u8 r.id.i1, .int .u8 r.id.g2, .int .u8 r.id.i2, .bool r.ended, .int .u8 r.code, .string r.val]
abbrev nV (n : Int) : Value := .int .u32 n
structure Tb where (win : Int) (R : List (I × Rw)) (Fl : List ((Int × Int) × Int))
abbrev tbB (b : Nat) (win : Int) (mr mf : Nat) : Asn := blk b [.int .u32 win, .map (some mr), .map (some mf)] 87
abbrev rwA (mr : Nat) (R : List (I × Rw)) : Asn := mapA mr I.V Rw.V R
abbrev flA (mf : Nat) (Fl : List ((Int × Int) × Int)) : Asn := mapA mf pkV nV Fl
abbrev tbAs (b : Nat) (t : Tb) (mr mf : Nat) : List Asn := [tbB b t.win mr mf, rwA mr t.R, flA mf t.Fl]
def tbA (b : Nat) (t : Tb) : Asn := Asn.ex fun y : Nat × Nat => Asn.all (tbAs b t y.1 y.2)
section
variable {F0 : List Nat} {m0 : Mem} {w0 w : World} {L : List Nat} {m : Mem} {As : List Asn}
theorem tbO {b : Nat} {t : Tb} (C : Ctx F0 m0 w0 w L m (tbA b t :: As)) : ∃ mr mf, Ctx F0 m0 w0 w L m (tbAs b t mr mf ++ As) := by
  obtain ⟨⟨mr, mf⟩, C⟩ := C.ex
  exact ⟨mr, mf, C.all⟩
theorem tbI {b : Nat} {t : Tb} (mr mf : Nat) (C : Ctx F0 m0 w0 w L m (tbAs b t mr mf ++ As)) : Ctx F0 m0 w0 w L m (tbA b t :: As) := Ctx.exI (mr, mf) (Ctx.allI C)
end
/-! ### what it says -/
def floorF (Fl : List ((Int × Int) × Int)) (p : Int × Int) : Int := (fnd p Fl).getD 0
def oldF (Fl : List ((Int × Int) × Int)) (d : I) : Bool := (d.d == 0) && decide (d.s ≤ floorF Fl (d.n, d.l))
def stateF (t : Tb) (d : I) : Int := match fnd d t.R with
  | some r => if r.ended then 2 else 1
  | none => if oldF t.Fl d then 3 else if (d.d == 0) && decide (IntKind.wrap .u32 (d.s - floorF t.Fl (d.n, d.l)) > t.win) then 4 else 0
def Rw.fresh (d : I) : Rw := ⟨d, false, 0, ByteArray.mk #[]⟩
def beginF (t : Tb) (d : I) : Int × Tb := if d.right then (if stateF t d = 3 then (16, t) else if stateF t d = 4 then (10, t) else if stateF t d = 0 then (0, { t with R := X.mput d (Rw.fresh d) t.R }) else (4, t)) else (1, t)
def endF (t : Tb) (d : I) (c : Int) (s : ByteArray) : Bool × Tb := if stateF t d = 1 then (if oldF t.Fl d then (true, { t with R := X.mdel d t.R }) else (true, { t with R := X.mput d ⟨d, true, c, s⟩ t.R })) else (false, t)
def pastF (Fl : List ((Int × Int) × Int)) (p : Int × Int) (d : I) (r : Rw) : Bool := (((d.n == p.1) && (d.l == p.2)) && r.ended) && oldF Fl d
def raiseF (t : Tb) (p : Int × Int) (n : Int) : Tb := if rightP p.1 p.2 && decide (n ≤ 1048576) && decide (n > floorF t.Fl p) then { t with R := t.R.filter (fun x => !pastF (X.mput p n t.Fl) p x.1 x.2), Fl := X.mput p n t.Fl } else t
theorem t84 : Try.prog.underlying 84 = some (.map 54 60) := by kernel_rfl
theorem t85 : Try.prog.underlying 85 = some (.map 50 32) := by kernel_rfl
theorem z60 : ((Try.prog.info? 60).bind (·.zero)) = some (Rw.fresh I.zero).V := by kernel_rfl
theorem z32 : ((Try.prog.info? 32).bind (·.zero)) = some (nV 0) := by kernel_rfl
section
variable {F0 : List Nat} {m0 : Mem} {w0 w : World} {L : List Nat} {m : Mem} {As : List Asn}
theorem look_fl {mf : Nat} {Fl : List ((Int × Int) × Int)} (C : Ctx F0 m0 w0 w L m (flA mf Fl :: As)) (p : Int × Int) : (Instr.lookup 85 (.map (some mf)) (pkV p) false).run Try.prog w = .ok (nV (floorF Fl p)) w := by
  obtain ⟨i, hi, hz⟩ := Option.bind_eq_some_iff.1 z32
  have := Ctx.mlook (P := Try.prog) t85 key50 hi hz C p false
  rw [this, floorF]
  cases fnd p Fl <;> rfl
theorem look_rw {mr : Nat} {R : List (I × Rw)} (C : Ctx F0 m0 w0 w L m (rwA mr R :: As)) (d : I) : (Instr.lookup 84 (.map (some mr)) d.V true).run Try.prog w = .ok (.tuple #[((fnd d R).getD (Rw.fresh I.zero)).V, .bool (fnd d R).isSome]) w := by
  obtain ⟨i, hi, hz⟩ := Option.bind_eq_some_iff.1 z60
  have := Ctx.mlook (P := Try.prog) t84 key54 hi hz C d true
  rw [this]
  cases fnd d R <;> rfl
theorem look_rw1 {mr : Nat} {R : List (I × Rw)} (C : Ctx F0 m0 w0 w L m (rwA mr R :: As)) (d : I) : (Instr.lookup 84 (.map (some mr)) d.V false).run Try.prog w = .ok ((fnd d R).getD (Rw.fresh I.zero)).V w := by
  obtain ⟨i, hi, hz⟩ := Option.bind_eq_some_iff.1 z60
  have := Ctx.mlook (P := Try.prog) t84 key54 hi hz C d false
  rw [this]
  cases fnd d R <;> rfl
end
/-! ### contracts -/
theorem c_none (b : Nat) (t : Tb) : Ctr Try.prog 36 #[.pointer (some ⟨b, 0, none⟩)] noMem [tbA b t] (fun _ : Unit => .bool false) (fun _ _ => True) (fun _ => [tbA b t]) := by
  refine Ctr.mk fun w F m C _ => x_amo_Table_none _ w _ ?_
  obtain ⟨mr, mf, C⟩ := tbO C
  exact ⟨some mr, C.blkCell (j := 1) rfl, Ctr.ret () rfl trivial (tbI mr mf C)⟩
theorem c_old (b : Nat) (win : Int) (mr mf : Nat) (Fl : List ((Int × Int) × Int)) (d : I) :
    Ctr Try.prog 50 #[.pointer (some ⟨b, 0, none⟩), d.V] noMem [tbB b win mr mf, flA mf Fl] (fun _ : Unit => .bool (oldF Fl d)) (fun _ _ => True) (fun _ => [tbB b win mr mf, flA mf Fl]) := by
  refine Ctr.mk fun w F m C _ => x_amo_Table_old _ _ _ _ _ _ _ _ _ _ _ w _ ?_
  have hf : ∀ {w' L'} {As' : List Asn}, Ctx F m w w' L' m (tbB b win mr mf :: As') → FactsW [(⟨b, 2, none⟩, [.map (some mf)])] w' L' := fun C => C.blkFact1 2 _ rfl (facts_nil _ _)
  refine ⟨_, hf C, ?_⟩
  by_cases h : d.d = 0
  · rw [if_pos (by simp [h])]
    refine ⟨some mf, by simp [Addr.add_mid], fun w4 L5 h4 g4 => ?_⟩
    replace C := C.hidL h4 g4
    refine ⟨_, w4, look_fl C.swap (d.n, d.l), kept_refl _ _, hf C, ?_⟩
    exact Ctr.ret () (by simp [oldF, h]) trivial C
  · rw [if_neg (by simpa using h)]
    intro w2 h2
    exact Ctr.ret () (by simp [oldF, h]) trivial (C.hid0 h2)
theorem c_State (b : Nat) (t : Tb) (d : I) : Ctr Try.prog 31 #[.pointer (some ⟨b, 0, none⟩), d.V] noMem [tbA b t] (fun _ : Unit => .int .i64 (stateF t d)) (fun _ _ => True) (fun _ => [tbA b t]) := by
  refine Ctr.mk fun w F m C _ => x_amo_Table_State _ _ _ _ _ _ _ _ _ _ _ w _ fun w1 L2 h1 g1 => ?_
  refine (c_none b t).call (C.hidL h1 g1) trivial fun _ m1 w4 hk hm _ C => ⟨_, rfl, hk, ?_⟩
  rw [if_neg (by decide)]
  obtain ⟨mr, mf, C⟩ := tbO C
  have hf : ∀ {w' L'} {As' : List Asn}, Ctx F m w w' L' m1 (tbB b t.win mr mf :: As') → FactsW [(⟨b, 1, none⟩, [.map (some mr)])] w' L' := fun C => C.blkFact1 1 _ rfl (facts_nil _ _)
  refine ⟨_, hf C, some mr, by simp [Addr.add_mid], fun w8 L9 h8 g8 => ?_, fun w8 L9 h8 g8 => ?_⟩
  all_goals
    replace C := C.hidL h8 g8
    refine ⟨_, _, _, _, _, _, _, _, _, _, _, _, _, _, w8, look_rw (C.pm [1, 0, 2] rfl) d, kept_refl _ _, hf C, ?_⟩
    cases hfd : fnd d t.R with
    | some r =>
      cases he : r.ended with
      | true =>
        rw [if_pos (by simp [he])]
        intro w39 h39
        exact Ctr.ret () (by rw [stateF, hfd]; simp [he]) trivial (tbI mr mf (C.hid0 h39))
      | false =>
        rw [if_neg (by simp [he]), if_pos (by simp)]
        intro w39 h39
        exact Ctr.ret () (by rw [stateF, hfd]; simp [he]) trivial (tbI mr mf (C.hid0 h39))
    | none =>
      rw [if_neg (by simp), if_neg (by simp)]
      intro w25 L26 h25 g25
      replace C := (C.hidL h25 g25).pm [0, 2, 1] rfl
      refine (c_old b t.win mr mf t.Fl d).call (As := [rwA mr t.R]) C trivial fun _ m2 w28 hk2 hm2 _ C => ⟨_, rfl, hk2, ?_⟩
      replace C : Ctx F m w w28 L26 m2 (tbAs b t mr mf ++ []) := C.pm [0, 2, 1] rfl
      cases ho : oldF t.Fl d with
      | true =>
        rw [if_pos rfl]
        exact Ctr.ret () (by rw [stateF, hfd]; simp [ho]) trivial (tbI mr mf C)
      | false =>
        rw [if_neg (by decide)]
        have hf2 : ∀ {w' L'} {As' : List Asn}, Ctx F m w w' L' m2 (tbB b t.win mr mf :: As') → FactsW [(⟨b, 2, none⟩, [.map (some mf)]), (⟨b, 0, none⟩, [.int .u32 t.win])] w' L' := fun C => C.blkFact1 2 _ rfl (C.blkFact1 0 _ rfl (facts_nil _ _))
        refine ⟨_, hf2 C, ?_⟩
        by_cases hd : d.d = 0
        · rw [if_pos (by simp [hd])]
          refine ⟨some mf, by simp [Addr.add_mid], t.win, by simp [Addr.add_mid], fun w34 L35 h34 g34 => ?_⟩
          replace C := C.hidL h34 g34
          refine ⟨_, w34, look_fl (C.pm [2, 0, 1] rfl) (d.n, d.l), kept_refl _ _, hf2 C, ?_⟩
          by_cases hw : IntKind.wrap .u32 (d.s - floorF t.Fl (d.n, d.l)) > t.win
          · rw [if_pos (by simpa using hw)]
            exact Ctr.ret () (by rw [stateF, hfd]; simp only [ho, hd, hw]; rfl) trivial (tbI mr mf C)
          · rw [if_neg (by simpa using hw)]
            exact Ctr.ret () (by rw [stateF, hfd]; simp only [ho, hd, hw]; rfl) trivial (tbI mr mf C)
        · rw [if_neg (by simpa using hd)]
          intro w31 h31
          have hdb : (d.d == 0) = false := by simpa using hd
          exact Ctr.ret () (by rw [stateF, hfd]; simp only [ho, hdb]; rfl) trivial (tbI mr mf (C.hid0 h31))
theorem c_Begin (b : Nat) (t : Tb) (d : I) (hd : d.In) : Ctr Try.prog 21 #[.pointer (some ⟨b, 0, none⟩), d.V] noMem [tbA b t] (fun _ : Unit => .int .i64 (beginF t d).1) (fun _ _ => True) (fun _ => [tbA b (beginF t d).2]) := by
  refine Ctr.mk fun w F m C _ => x_amo_Table_Begin _ _ _ _ _ _ _ _ _ _ _ w _ fun w1 L2 h1 g1 => ?_
  refine (c_none b t).call (C.hidL h1 g1) trivial fun _ m1 w4 hk hm _ C => ⟨_, rfl, hk, ?_⟩
  rw [if_pos (by decide)]
  refine C.gives (c_Right d hd) fun w7 k7 C => ⟨_, rfl, k7, ?_⟩
  cases hr : d.right with
  | false =>
    rw [if_pos (by decide)]
    have e : beginF t d = (1, t) := by simp [beginF, hr]
    rw [e]
    exact Ctr.ret () rfl trivial C
  | true =>
    rw [if_neg (by decide)]
    refine (c_State b t d).call (As := []) C trivial fun _ m2 w10 hk2 hm2 _ C => ⟨_, rfl, hk2, ?_⟩
    by_cases s3 : stateF t d = 3
    · rw [if_pos (by simp [s3])]
      have e : beginF t d = (16, t) := by simp [beginF, hr, s3]
      rw [e]; exact Ctr.ret () rfl trivial C
    rw [if_neg (by simpa using s3)]
    by_cases s4 : stateF t d = 4
    · rw [if_pos (by simp [s4])]
      have e : beginF t d = (10, t) := by simp [beginF, hr, s4]
      rw [e]; exact Ctr.ret () rfl trivial C
    rw [if_neg (by simpa using s4)]
    by_cases s0 : stateF t d = 0
    · rw [if_pos (by simp [s0])]
      have e : beginF t d = (0, { t with R := X.mput d (Rw.fresh d) t.R }) := by simp [beginF, hr, s0]
      rw [e]
      obtain ⟨mr, mf, C⟩ := tbO C
      refine ⟨[(⟨b, 1, none⟩, [.map (some mr)])], C.blkFact1 1 _ rfl (facts_nil _ _), some mr, by simp [Addr.add_mid], fun w14 L15 h14 g14 => ?_⟩
      obtain ⟨w16, hr, hk, C2⟩ := Ctx.mput (P := Try.prog) t84 key54 ((C.hidL h14 g14).pm [1, 0, 2] rfl) d (Rw.fresh d)
      refine ⟨w16, hr, hk, Ctr.ret (m' := m2) (L := L15) () rfl trivial (tbI mr mf ?_)⟩
      exact C2.pm [1, 0, 2] rfl
    · rw [if_neg (by simpa using s0)]
      have e : beginF t d = (4, t) := by simp [beginF, hr, s0, s3, s4]
      rw [e]; exact Ctr.ret () rfl trivial C
theorem c_End (b : Nat) (t : Tb) (d : I) (c : Int) (s : ByteArray) : Ctr Try.prog 23 #[.pointer (some ⟨b, 0, none⟩), d.V, .agg #[.int .u8 c, .string s]] noMem [tbA b t] (fun _ : Unit => .bool (endF t d c s).1) (fun _ _ => True) (fun _ => [tbA b (endF t d c s).2]) := by
  refine Ctr.mk fun w F m C _ => x_amo_Table_End _ _ _ _ _ _ _ _ _ _ _ _ _ w _ fun w1 L2 h1 g1 => ?_
  refine (c_State b t d).call (C.hidL h1 g1) trivial fun _ m1 w4 hk hm _ C => ⟨_, rfl, hk, ?_⟩
  by_cases s1 : stateF t d = 1
  rotate_left
  · rw [if_pos (by simpa using s1)]
    have e : endF t d c s = (false, t) := by simp [endF, s1]
    rw [e]; exact Ctr.ret () rfl trivial C
  rw [if_neg (by simp [s1])]
  obtain ⟨mr, mf, C⟩ := tbO C
  replace C := C.pm [0, 2, 1] rfl
  refine (c_old b t.win mr mf t.Fl d).call (As := [rwA mr t.R]) C trivial fun _ m2 w7 hk2 hm2 _ C => ⟨_, rfl, hk2, ?_⟩
  cases ho : oldF t.Fl d with
  | true =>
    rw [if_pos rfl]
    have e : endF t d c s = (true, { t with R := X.mdel d t.R }) := by simp [endF, s1, ho]
    rw [e]
    refine ⟨[(⟨b, 1, none⟩, [.map (some mr)])], C.blkFact1 1 _ rfl (facts_nil _ _), some mr, by simp [Addr.add_mid], fun w14 L15 h14 g14 => ?_⟩
    obtain ⟨w16, hr, hk, C2⟩ := Ctx.mdel (P := Try.prog) (ty := 0) t84 key54 ((C.hidL h14 g14).pm [2, 0, 1] rfl) d
    exact ⟨w16, hr, hk, Ctr.ret (m' := m2) (L := L15) () rfl trivial (tbI mr mf (C2.pm [1, 0, 2] rfl))⟩
  | false =>
    rw [if_neg (by decide)]
    have e : endF t d c s = (true, { t with R := X.mput d ⟨d, true, c, s⟩ t.R }) := by simp [endF, s1, ho]
    rw [e]
    refine ⟨[(⟨b, 1, none⟩, [.map (some mr)])], C.blkFact1 1 _ rfl (facts_nil _ _), some mr, by simp [Addr.add_mid], fun w14 L15 h14 g14 => ?_⟩
    obtain ⟨w16, hr, hk, C2⟩ := Ctx.mput (P := Try.prog) t84 key54 ((C.hidL h14 g14).pm [2, 0, 1] rfl) d ⟨d, true, c, s⟩
    exact ⟨w16, hr, hk, Ctr.ret (m' := m2) (L := L15) () rfl trivial (tbI mr mf (C2.pm [1, 0, 2] rfl))⟩
theorem c_Res_ (b : Nat) (t : Tb) (d : I) : Ctr Try.prog 28 #[.pointer (some ⟨b, 0, none⟩), d.V] noMem [tbA b t] (fun _ : Unit => if stateF t d = 2 then .tuple #[.agg #[.int .u8 ((fnd d t.R).getD (Rw.fresh I.zero)).code, .string ((fnd d t.R).getD (Rw.fresh I.zero)).val], .bool true] else .tuple #[.agg #[.int .u8 0, .string (ByteArray.mk #[])], .bool false]) (fun _ _ => True) (fun _ => [tbA b t]) := by
  refine Ctr.mk fun w F m C _ => x_amo_Table_Res _ _ _ _ _ _ _ _ _ _ _ w _ fun w1 L2 h1 g1 => ?_
  refine (c_State b t d).call (C.hidL h1 g1) trivial fun _ m1 w4 hk hm _ C => ⟨_, rfl, hk, ?_⟩
  by_cases s2 : stateF t d = 2
  rotate_left
  · rw [if_pos (by simpa using s2)]
    intro w25 h25
    exact Ctr.ret () (by rw [if_neg s2]) trivial (C.hid0 h25)
  rw [if_neg (by simp [s2])]
  obtain ⟨mr, mf, C⟩ := tbO C
  have hf : ∀ {w' L'} {As' : List Asn}, Ctx F m w w' L' m1 (tbB b t.win mr mf :: As') → FactsW [(⟨b, 1, none⟩, [.map (some mr)])] w' L' := fun C => C.blkFact1 1 _ rfl (facts_nil _ _)
  refine ⟨_, hf C, some mr, by simp [Addr.add_mid], fun w8 L9 h8 g8 => ?_⟩
  replace C := C.hidL h8 g8
  refine ⟨_, _, _, _, _, _, _, _, _, _, _, _, _, w8, look_rw1 (C.pm [1, 0, 2] rfl) d, kept_refl _ _, hf C, fun w24 h24 => ?_⟩
  exact Ctr.ret () (by rw [if_pos s2]) trivial (tbI mr mf (C.hid0 h24))
theorem c_Len (b : Nat) (t : Tb) : Ctr Try.prog 34 #[.pointer (some ⟨b, 0, none⟩)] noMem [tbA b t] (fun _ : Unit => .int .i64 t.R.length) (fun _ _ => True) (fun _ => [tbA b t]) := by
  refine Ctr.mk fun w F m C _ => x_amo_Table_Len _ w _ ?_
  refine (c_none b t).call C trivial fun _ m1 w2 hk hm _ C => ⟨_, rfl, hk.size, ?_⟩
  rw [if_neg (by decide)]
  obtain ⟨mr, mf, C⟩ := tbO C
  refine ⟨some mr, C.blkCell (j := 1) rfl, _, w2, Ctx.mlen (P := Try.prog) (ty := 3) t84 (C.pm [1, 0, 2] rfl), Nat.le_refl _, ?_⟩
  exact Ctr.ret () rfl trivial (tbI mr mf C)
def winF (a : Int) : Int := IntKind.wrap .u32 (if (16 : Int) < (if (1 : Int) > a then 1 else a) then 16 else (if (1 : Int) > a then 1 else a))
@[reducible] def tb0 (a : Int) : Tb := ⟨winF a, [], []⟩
theorem c_New (a : Int) : Ctr Try.prog 10 #[.int .i64 a] noMem [] (fun b : Nat => .pointer (some ⟨b, 0, none⟩)) (fun _ _ => True) (fun b => [tbA b (tb0 a)]) := by
  refine Ctr.mk fun w F m C _ => x_amo_New _ w _ ?_
  have C1 := (C.mapNew I.V Rw.V).mapNew pkV nV
  have C2 := (C1.alloc [.int .u32 (winF a), .map (some w.heap.size), .map (some (w.alloc (.map #[] 0)).heap.size)] 87).pm [0, 2, 1] rfl
  exact Ctr.ret _ rfl trivial (tbI _ _ C2)
end Go.Proofs
