import Derived.Test.YtkkhkkfnbohnaaaU11d
set_option linter.unusedVariables false
set_option linter.unusedSimpArgs false
set_option maxRecDepth 10000
namespace Go.Proofs
open Go X RowKit
/-! ### proposers -/
structure Pp where (vw : Vw) (bn ph best : Int) (got : List Pr) (held : Option (Addr × Vl)) (tq : Sl) (tl : List En) (ch : Vl)
@[reducible] def Pp.cells (x : Pp) (mp : Nat) : List Value := [.int .u8 x.vw.g, .int .u32 x.vw.n, slV x.vw.q x.vw.ms.length, .int .u64 x.bn, .int .i64 x.ph, .map (some mp), .int .u64 x.best, .pointer (x.held.map (·.1)), slV x.tq x.tl.length, slV x.ch.mq x.ch.ms.length, slV x.ch.tq x.ch.ts.length]
/-- one, wherever its lists lie -/
structure Pe where (g n : Int) (ms : List Pr) (bn ph best : Int) (got : List Pr) (held : Option (List Pr × List Ev)) (tl : List Ev) (ch : List Pr × List Ev)
def Pp.er (x : Pp) : Pe := ⟨x.vw.g, x.vw.n, x.vw.ms, x.bn, x.ph, x.best, x.got, x.held.map (fun h => h.2.er), x.tl.map En.er, x.ch.er⟩
structure PpM (m : Mem) (x : Pp) : Prop where
  vw : VwM m x.vw
  vl : x.vw.ms.length ≤ 1000000
  tl : EsM m x.tq x.tl
  tn : x.tl.length ≤ 100000
  ch : VlM m x.ch
  hd : ∀ h, x.held = some h → MCells m h.1 h.2.row ∧ VlM m h.2
  once : x.got.Nodup
  gl : ∀ p ∈ x.got, p ∈ x.vw.ms
theorem PpM.mono {m m' : Mem} {x : Pp} (h : PpM m x) (hm : m.le m') : PpM m' x := ⟨MSrc.mono h.vw hm, h.vl, h.tl.mono hm, h.tn, h.ch.mono hm, fun k hk => ⟨(h.hd k hk).1.mono hm, (h.hd k hk).2.mono hm⟩, h.once, h.gl⟩
abbrev encP (p : Pr) : Value := .agg p.row.toArray
abbrev encB (b : Bool) : Value := .bool b
theorem key67 : KeyT Try.prog 67 encP := by
  refine keyAgg Try.underlying67 (fun x => ⟨_, rfl⟩) (fun x => by kernel_rfl) (fun x y => ⟨(x.n == y.n) && (x.l == y.l), by kernel_rfl, ?_⟩) (fun x => by simp [Instr.sameBits])
  simp only [Bool.and_eq_true, beq_iff_eq]
  exact ⟨fun h => pr_ext h, fun h => by rw [h]; exact ⟨rfl, rfl⟩⟩
theorem t103 : Try.prog.underlying 103 = some (.map 67 4) := Try.underlying103
abbrev gotL (l : List Pr) : List (Pr × Bool) := l.map fun p => (p, true)
theorem fnd_got (l : List Pr) (p : Pr) : fnd p (gotL l) = if p ∈ l then some true else none := by
  induction l with
  | nil => rfl
  | cons a l ih =>
    simp only [gotL, List.map_cons] at ih ⊢
    unfold fnd
    by_cases h : a = p
    · subst h; simp
    · have h' : ¬ p = a := fun e => h e.symm
      simp [h, h', ih]
theorem keys_got (l : List Pr) : (gotL l).map (·.1) = l := by
  induction l with
  | nil => rfl
  | cons a l ih => simp only [gotL, List.map_cons] at ih ⊢; rw [ih]
abbrev ppB (b : Nat) (x : Pp) (mp : Nat) : Asn := blk b (x.cells mp) 106
abbrev gtA (mp : Nat) (l : List Pr) : Asn := mapA mp encP encB (gotL l)
abbrev ppA (b mp : Nat) (x : Pp) : List Asn := [ppB b x mp, gtA mp x.got]
theorem z4 : ((Try.prog.info? 4).bind (·.zero)) = some (.bool false) := by kernel_rfl
section
variable {F0 : List Nat} {m0 : Mem} {w0 w : World} {L : List Nat} {m : Mem} {As : List Asn}
theorem ppF {b : Nat} {x : Pp} {mp : Nat} (C : Ctx F0 m0 w0 w L m (ppB b x mp :: As)) : FactsW [(⟨b, 0, none⟩, x.vw.row), (⟨b, 4, none⟩, [.int .i64 x.ph]), (⟨b, 5, none⟩, [.map (some mp)])] w L :=
  C.blkFact 0 x.vw.row (fun k v e => by match k, e with | 0, e => exact e | 1, e => exact e | 2, e => exact e) (C.blkFact1 4 _ rfl (C.blkFact1 5 _ rfl (facts_nil _ _)))
theorem got_look {mp : Nat} {l : List Pr} (C : Ctx F0 m0 w0 w L m (gtA mp l :: As)) (p : Pr) : (Instr.lookup 103 (.map (some mp)) (.agg p.row.toArray) false).run Try.prog w = .ok (.bool (decide (p ∈ l))) w := by
  obtain ⟨i, hi, hz⟩ := Option.bind_eq_some_iff.1 z4
  have := Ctx.mlook (P := Try.prog) t103 key67 hi hz C p false
  rw [fnd_got] at this
  rw [this]
  by_cases h : p ∈ l
  · simp [h]
  · simp [h]
end
theorem c_PnoneB (b mp : Nat) (x : Pp) : Ctr Try.prog 61 #[.pointer (some ⟨b, 0, none⟩)] noMem [ppB b x mp] (fun _ : Unit => .bool false) (fun _ _ => True) (fun _ => [ppB b x mp]) :=
  Ctr.mk fun w F m C _ => x_Pnone _ w _ ⟨some mp, by rw [Addr.add_mid]; exact C.blkCell (j := 5) rfl, Ctr.ret () rfl trivial C⟩
def countE (e : Pe) (p : Pr) (ph : Int) : Bool := decide (e.ph = ph) && decide (p ∈ e.ms) && !decide (p ∈ e.got)
def Pp.put (x : Pp) (p : Pr) (ph : Int) : Pp := if countE x.er p ph then { x with got := x.got ++ [p] } else x
theorem put_M {m : Mem} {x : Pp} {p : Pr} {ph : Int} (h : PpM m x) : PpM m (x.put p ph) := by
  unfold Pp.put
  split
  · rename_i hc
    simp only [countE, Bool.and_eq_true, decide_eq_true_eq, Bool.not_eq_true', decide_eq_false_iff_not] at hc
    refine ⟨h.vw, h.vl, h.tl, h.tn, h.ch, h.hd, ?_, fun q hq => ?_⟩
    · rw [List.nodup_append]
      refine ⟨h.once, by simp, fun a ha b hb hab => hc.2 ?_⟩
      have hb : b = p := by simpa using hb
      rw [← hb, ← hab]; exact ha
    · rcases List.mem_append.1 hq with hq | hq
      · exact h.gl q hq
      · have : q = p := by simpa using hq
        rw [this]; exact hc.1.2
  · exact h
theorem c_count (b mp : Nat) (x : Pp) (p : Pr) (ph : Int) : Ctr Try.prog 55 #[.pointer (some ⟨b, 0, none⟩), .agg p.row.toArray, .int .i64 ph] (fun m => PpM m x) (ppA b mp x) (fun _ : Unit => .bool (countE x.er p ph)) (fun _ m => PpM m (x.put p ph)) (fun _ => ppA b mp (x.put p ph)) := by
  refine Ctr.mk fun w F m C hx => x_count _ _ _ _ w _ ?_
  have no : countE x.er p ph = false → ∀ {w' L' m'}, m.le m' → Ctx F m w w' L' m' (ppA b mp x) → ∃ i m' L, Ending.returned (.bool false) = .returned (.bool (countE x.er p ph)) ∧ PpM m' (x.put p ph) ∧ Ctx F m w w' L m' (ppA b mp (x.put p ph)) := fun h w' L' m' hm C =>
    ⟨(), m', L', by rw [h], put_M (hx.mono hm), by rw [Pp.put, h]; exact C⟩
  refine ⟨_, ppF C, fun w2 L3 h2 g2 => ?_⟩
  replace C := C.hidL h2 g2
  refine (c_PnoneB b mp x).call (As := [gtA mp x.got]) C trivial fun _ m1 w5 hk hm _ C => ⟨_, rfl, hk, ppF C, _, ppF C, fun _ h => h, ?_⟩
  rw [if_pos (by decide)]
  refine ⟨x.ph, by simp [Addr.add_mid], ?_⟩
  by_cases hph : x.ph = ph
  rotate_left
  · rw [if_neg (by simp [hph])]
    refine ⟨_, ppF C, fun _ h => h, ?_⟩
    obtain ⟨i, m', L, h1, h2, h3⟩ := no (by simp [countE, Pp.er, hph]) hm C
    exact ⟨i, m', L, h1, h2, h3⟩
  rw [if_pos (by simp [hph])]
  refine ⟨x.vw.g, x.vw.n, x.vw.q.1, x.vw.ms.length, x.vw.q.2, by simp [Addr.add_mid], ?_⟩
  refine (c_Rank x.vw p hx.vl).call (As := _) C (hx.vw.mono hm) fun r m2 w22 hk2 hm2 hr C => ⟨_, rfl, hk2, ppF C, _, ppF C, fun _ h => h, ?_⟩
  replace C : Ctx F m w w22 L3 m2 (ppA b mp x) := C
  have hm02 := hm.le_trans hm2
  by_cases hmem : p ∈ x.vw.ms
  rotate_left
  · rw [if_neg (by have := hr.2 hmem; simp [this])]
    obtain ⟨i, m', L, h1, h2, h3⟩ := no (by simp [countE, Pp.er, hmem]) hm02 C
    exact ⟨i, m', L, h1, h2, h3⟩
  have hr0 : ¬ r < 0 := fun h => (hr.1 h) hmem
  rw [if_pos (by simp [hr0])]
  refine ⟨some mp, by simp [Addr.add_mid], decide (p ∈ x.got), w22, got_look C.swap p, kept_refl _ _, ppF C, ?_⟩
  by_cases hg : p ∈ x.got
  · rw [if_pos (by simp [hg])]
    obtain ⟨i, m', L, h1, h2, h3⟩ := no (by simp [countE, Pp.er, hg]) hm02 C
    exact ⟨i, m', L, h1, h2, h3⟩
  rw [if_neg (by simp [hg])]
  refine ⟨_, ppF C, some mp, by simp [Addr.add_mid], fun w31 L32 h31 g31 => ?_⟩
  obtain ⟨w33, hr3, hk3, C4⟩ := Ctx.mput (P := Try.prog) t103 key67 (C.hidL h31 g31).swap p true
  rw [mput_out (by rw [keys_got]; exact hg)] at C4
  have e : gotL x.got ++ [(p, true)] = gotL (x.got ++ [p]) := by simp [gotL]
  rw [e] at C4
  have hc : countE x.er p ph = true := by simp [countE, Pp.er, hph, hmem, hg]
  have hp := put_M (p := p) (ph := ph) (hx.mono hm02)
  refine ⟨w33, hr3, hk3, Ctr.ret (m' := m2) (L := L32) () (by rw [hc]) hp ?_⟩
  rw [Pp.put, hc]
  exact C4.swap
def majE (e : Pe) : Int := ((e.ms.length / 2 + 1 : Nat) : Int)
def enoughE (e : Pe) : Bool := decide (((e.got.length : Nat) : Int) ≥ majE e)
theorem c_enough (b mp : Nat) (x : Pp) : Ctr Try.prog 59 #[.pointer (some ⟨b, 0, none⟩)] (fun m => PpM m x) (ppA b mp x) (fun _ : Unit => .bool (enoughE x.er)) (fun _ _ => True) (fun _ => ppA b mp x) := by
  refine Ctr.mk fun w F m C hx => x_enough _ w _ ⟨_, ppF C, some mp, by simp [Addr.add_mid], x.vw.g, x.vw.n, x.vw.q.1, x.vw.ms.length, x.vw.q.2, by simp [Addr.add_mid], fun w8 h8 => ?_⟩
  replace C := C.hid0 h8
  have hl := Ctx.mlen (P := Try.prog) (ty := 3) t103 C.swap
  have e : (gotL x.got).length = x.got.length := by simp [gotL]
  rw [e] at hl
  refine ⟨_, w8, hl, Nat.le_refl _, ppF C, ?_⟩
  refine C.gives (c_Majority x.vw hx.vl) fun w12 k12 C => ⟨_, rfl, k12.size, ppF C, ?_⟩
  exact Ctr.ret () rfl trivial C
theorem c_Phase (b mp : Nat) (x : Pp) : Ctr Try.prog 35 #[.pointer (some ⟨b, 0, none⟩)] noMem (ppA b mp x) (fun _ : Unit => .int .i64 x.ph) (fun _ _ => True) (fun _ => ppA b mp x) := by
  refine Ctr.mk fun w F m C _ => x_Phase _ w _ ?_
  refine (c_PnoneB b mp x).call (As := [gtA mp x.got]) C trivial fun _ m1 w2 hk hm _ C => ⟨_, rfl, hk.size, ?_⟩
  rw [if_neg (by decide)]
  exact ⟨x.ph, by rw [Addr.add_mid]; exact C.blkCell (j := 4) rfl, Ctr.ret () rfl trivial C⟩
theorem c_PBallot (b mp : Nat) (x : Pp) : Ctr Try.prog 38 #[.pointer (some ⟨b, 0, none⟩)] noMem (ppA b mp x) (fun _ : Unit => .int .u64 x.bn) (fun _ _ => True) (fun _ => ppA b mp x) := by
  refine Ctr.mk fun w F m C _ => x_PBallot _ w _ ?_
  refine (c_PnoneB b mp x).call (As := [gtA mp x.got]) C trivial fun _ m1 w2 hk hm _ C => ⟨_, rfl, hk.size, ?_⟩
  rw [if_neg (by decide)]
  exact ⟨x.bn, by rw [Addr.add_mid]; exact C.blkCell (j := 3) rfl, Ctr.ret () rfl trivial C⟩
def readyE (e : Pe) : Bool := decide (e.ph = 0) && enoughE e
theorem c_Ready (b mp : Nat) (x : Pp) : Ctr Try.prog 36 #[.pointer (some ⟨b, 0, none⟩)] (fun m => PpM m x) (ppA b mp x) (fun _ : Unit => .bool (readyE x.er)) (fun _ _ => True) (fun _ => ppA b mp x) := by
  refine Ctr.mk fun w F m C hx => x_Ready _ w _ ?_
  refine (c_PnoneB b mp x).call (As := [gtA mp x.got]) C trivial fun _ m1 w2 hk hm _ C => ⟨_, rfl, hk.size, ?_⟩
  replace C : Ctx F m w w2 [] m1 (ppA b mp x) := C
  rw [if_pos (by decide)]
  refine ⟨x.ph, by rw [Addr.add_mid]; exact C.blkCell (j := 4) rfl, ?_⟩
  by_cases hp : x.ph = 0
  · rw [if_pos (by simp [hp])]
    refine (c_enough b mp x).call (As := []) C (hx.mono hm) fun _ m2 w6 hk hm2 _ C => ⟨_, rfl, hk.size, ?_⟩
    exact Ctr.ret () (by simp [readyE, Pp.er, hp]) trivial C
  · rw [if_neg (by simp [hp])]
    exact Ctr.ret () (by simp [readyE, Pp.er, hp]) trivial C
theorem c_Value (b mp : Nat) (x : Pp) : Ctr Try.prog 39 #[.pointer (some ⟨b, 0, none⟩)] (fun m => PpM m x) (ppA b mp x) (fun u : Vl => .agg u.row.toArray) (fun u m => VlM m u ∧ u.er = x.ch.er) (fun _ => ppA b mp x) := by
  refine Ctr.mk fun w F m C hx => x_Value _ w _ fun w1 L2 h1 g1 => ?_
  refine (c_PnoneB b mp x).call (As := [gtA mp x.got]) (C.hidL h1 g1) trivial fun _ m1 w4 hk hm _ C => ⟨_, rfl, hk, ?_⟩
  rw [if_neg (by decide)]
  refine ⟨_, _, _, _, _, _, by rw [Addr.add_mid]; exact C.blkCells (vs := x.ch.row) (fun k v e => by match k, e with | 0, e => exact e | 1, e => exact e), C.blkAt.2, ?_⟩
  refine (c_cloneV x.ch).call (As := _) C (hx.ch.mono hm) fun u m2 w13 hk hm2 hu C => ⟨_, _, _, _, _, _, rfl, hk, fun w20 h20 => ?_⟩
  exact Ctr.ret (m' := m2) (L := []) u rfl hu (C.hid0 h20)
/-- what Promise does -/
def promE (e : Pe) (p : Pr) (tl : List Ev) (acc : Int) (v : List Pr × List Ev) (has : Bool) : Pe :=
  if countE e p 0 then
    let e2 : Pe := if has = true ∧ (e.held = none ∨ acc > e.best) then { e with got := e.got ++ [p], best := acc, held := some v } else { e with got := e.got ++ [p] }
    if tl.length > e.tl.length then { e2 with tl := tl } else e2
  else e
theorem c_Promise (b mp : Nat) (x : Pp) (p : Pr) (tq : Sl) (tl : List En) (acc : Int) (v : Vl) (has : Bool) (hb : b ≠ 0 ∨ True) :
    Ctr Try.prog 26 #[.pointer (some ⟨b, 0, none⟩), .agg p.row.toArray, slV tq tl.length, .int .u64 acc, .agg v.row.toArray, .bool has] (fun m => PpM m x ∧ EsM m tq tl ∧ tl.length ≤ 100000 ∧ VlM m v) (ppA b mp x)
      (fun _ : Pp => .tuple #[]) (fun y m => PpM m y ∧ y.er = promE x.er p (tl.map En.er) acc v.er has) (fun y => ppA b mp y) := by
  refine Ctr.mk fun w F m C hp => x_Promise _ _ _ _ _ _ _ _ _ _ _ _ _ _ w _ fun w1 L2 h1 g1 => ?_
  obtain ⟨hx, ht, htl, hv⟩ := hp
  refine (c_count b mp x p 0).call (As := []) (C.hidL h1 g1) hx fun _ m1 w4 hk hm hx1 C => ⟨_, rfl, hk, ?_⟩
  replace ht := ht.mono hm
  replace hv := hv.mono hm
  have hx := hx.mono hm
  cases hc : countE x.er p 0 with
  | false =>
    rw [if_pos (by decide)]
    have e : x.put p 0 = x := by rw [Pp.put, hc]; rfl
    rw [e] at C hx1
    exact Ctr.ret (m' := m1) x rfl ⟨hx1, by rw [promE, hc]; rfl⟩ C
  | true =>
  rw [if_neg (by decide)]
  have e : x.put p 0 = { x with got := x.got ++ [p] } := by rw [Pp.put, hc]; rfl
  rw [e] at C hx1
  replace C : Ctx F m w w4 L2 m1 (ppA b mp { x with got := x.got ++ [p] }) := C
  -- the tail's part
  have tailP : ∀ (W : World) (m' : Mem) (y : Pp), m1.le m' → PpM m' y → y.tl = x.tl → (∀ tl', promE x.er p tl' acc v.er has = if tl'.length > x.er.tl.length then { y.er with tl := tl' } else y.er) → Ctx F m w W L2 m' (ppA b mp y) →
      ∃ q k c, World.cell? W ((⟨b, 0, none⟩ : Addr).add 8) = some (.slice q k c) ∧ ¬ b ∈ L2 ∧ if decide (((tl.length : Nat) : Int) > ((k : Nat) : Int)) = true then
        CallX Try.prog 56 #[slV tq tl.length] W fun e w' => ∃ q k c, e = .returned (.slice q k c) ∧ Kept L2 W w' ∧ (none : Option Nat) = none ∧ World.there w' b (0 + 8) 1 ∧ ¬ b ∈ L2 ∧
          (fun e w' => ∃ (i : Pp) (m' : Mem) (L : List Nat), e = Ending.returned (.tuple #[]) ∧ (PpM m' i ∧ i.er = promE x.er p (tl.map En.er) acc v.er has) ∧ Ctx F m w w' L m' (ppA b mp i)) (.returned (.tuple #[])) (w'.setCells b (0 + 8) [.slice q k c])
      else (fun e w' => ∃ (i : Pp) (m' : Mem) (L : List Nat), e = Ending.returned (.tuple #[]) ∧ (PpM m' i ∧ i.er = promE x.er p (tl.map En.er) acc v.er has) ∧ Ctx F m w w' L m' (ppA b mp i)) (.returned (.tuple #[])) W := by
    intro W m' y hm' hy hyt hpe C
    refine ⟨y.tq.1, y.tl.length, y.tq.2, by rw [Addr.add_mid]; exact C.blkCell (j := 8) rfl, C.blkAt.2, ?_⟩
    have hlx : x.er.tl.length = x.tl.length := by simp [Pp.er]
    by_cases hgt : tl.length > x.tl.length
    · rw [if_pos (by rw [hyt]; simpa using hgt)]
      refine (c_clones tq tl htl).call (As := _) C (ht.mono hm') fun f m2 w19 hk hm2 hf C => ⟨_, _, _, rfl, hk, rfl, C.there 8 1 (by simp), C.blkAt.2, ?_⟩
      have D := C.store 8 [slV f.1 f.2.length] (by simp)
      have hy2 := hy.mono hm2
      have hfl : f.2.length = tl.length := by simpa using congrArg List.length hf.2
      refine ⟨{ y with tq := f.1, tl := f.2 }, m2, L2, rfl, ⟨⟨hy2.vw, hy2.vl, hf.1, by show f.2.length ≤ _; omega, hy2.ch, hy2.hd, hy2.once, hy2.gl⟩, ?_⟩, D⟩
      rw [hpe, if_pos (by rw [List.length_map, hlx]; exact hgt), ← hf.2]
      rfl
    · rw [if_neg (by rw [hyt]; simpa using hgt)]
      exact ⟨y, m', L2, rfl, ⟨hy, by rw [hpe, if_neg (by rw [List.length_map, hlx]; exact hgt)]⟩, C⟩
  -- the held part
  have heldP : has = true → (x.held = none ∨ acc > x.best) → ∀ (u : Vl) (m' : Mem) (W : World), m1.le m' → VlM m' u → u.er = v.er → Ctx F m w W L2 m' (ppA b mp { x with got := x.got ++ [p] }) →
      World.there (W.alloc (.cells #[(.slice none 0 0), (.slice none 0 0)] 46)) W.heap.size 0 2 ∧ (¬ W.heap.size ∈ L2) ∧ World.there ((W.alloc (.cells #[(.slice none 0 0), (.slice none 0 0)] 46)).setCells W.heap.size 0 u.row) b (0 + 6) 1 ∧ (¬ b ∈ L2) ∧
      World.there (((W.alloc (.cells #[(.slice none 0 0), (.slice none 0 0)] 46)).setCells W.heap.size 0 u.row).setCells b (0 + 6) [.int .u64 acc]) b (0 + 7) 1 ∧
      ∃ y m2, m1.le m2 ∧ PpM m2 y ∧ y.tl = x.tl ∧ (∀ tl', promE x.er p tl' acc v.er has = if tl'.length > x.er.tl.length then { y.er with tl := tl' } else y.er) ∧
        Ctx F m w ((((W.alloc (.cells #[(.slice none 0 0), (.slice none 0 0)] 46)).setCells W.heap.size 0 u.row).setCells b (0 + 6) [.int .u64 acc]).setCells b (0 + 7) [.pointer (some ⟨W.heap.size, 0, none⟩)]) L2 m2 (ppA b mp y) := by
    intro hh ho u m' W hm' hu hue C
    have D0 := C.alloc [.slice none 0 0, .slice none 0 0] 46
    have D1 := D0.store 0 u.row (by simp)
    have D2 : Ctx F m w _ L2 m' (ppB b { x with got := x.got ++ [p] } mp :: blk W.heap.size u.row 46 :: [gtA mp (x.got ++ [p])]) := D1.swap
    have D3 := D2.store 6 [.int .u64 acc] (by simp)
    have D4 := D3.store 7 [.pointer (some ⟨W.heap.size, 0, none⟩)] (by simp [splice])
    have D5 := D4.swap
    have hle := D5.share_le
    refine ⟨D0.there 0 2 (by simp), D0.blkAt.2, D2.there 6 1 (by simp), D2.blkAt.2, D3.there 7 1 (by simp [splice]), { x with got := x.got ++ [p], best := acc, held := some (⟨W.heap.size, 0, none⟩, u) }, _, hm'.le_trans hle, ?_, rfl, fun tl' => ?_, D5.share⟩
    · have hx2 := (hx1.mono hm').mono hle
      refine ⟨hx2.vw, hx2.vl, hx2.tl, hx2.tn, hx2.ch, fun k hk => ?_, hx2.once, hx2.gl⟩
      injection hk with hk; subst hk
      exact ⟨Mem.plus_cells _ _ _ _ _ fun j v h => by rw [Nat.zero_add]; exact h, hu.mono hle⟩
    · have hxe : x.er.held = none ∨ acc > x.er.best := by
        rcases ho with ho | ho
        · exact .inl (by simp [Pp.er, ho])
        · exact .inr ho
      rw [promE, if_pos hc]
      simp only [hh, true_and, if_pos hxe]
      simp only [Pp.er, hue, Option.map_some]
      rfl
  cases has with
  | false =>
    rw [if_neg (by decide)]
    exact tailP w4 m1 { x with got := x.got ++ [p] } (Mem.le_refl _) hx1 rfl (fun tl' => by rw [promE, if_pos hc]; simp [Pp.er]) C
  | true =>
  rw [if_pos (by decide)]
  refine ⟨x.held.map (·.1), by rw [Addr.add_mid]; exact C.blkCell (j := 7) rfl, C.blkAt.2, ?_⟩
  cases hh : x.held with
  | none =>
    rw [if_neg (by simp)]
    refine (c_cloneV v).call (As := _) C hv fun u m2 w8 hk hm2 hu C => ⟨_, _, _, _, _, _, rfl, hk, rfl, ?_⟩
    obtain ⟨g1, g2, g3, g4, g5, y, m3, hm3, hy, hyt, hpe, D⟩ := heldP rfl (.inl hh) u m2 w8 hm2 hu.1 hu.2 C
    exact ⟨g1, g2, rfl, g3, g4, rfl, g5, g4, tailP _ m3 y hm3 hy hyt hpe D⟩
  | some hd =>
    rw [if_pos (by simp)]
    refine ⟨x.best, by rw [Addr.add_mid]; exact C.blkCell (j := 6) rfl, C.blkAt.2, ?_⟩
    by_cases hac : acc > x.best
    · rw [if_pos (by simpa using hac)]
      refine (c_cloneV v).call (As := _) C hv fun u m2 w8 hk hm2 hu C => ⟨_, _, _, _, _, _, rfl, hk, rfl, ?_⟩
      obtain ⟨g1, g2, g3, g4, g5, y, m3, hm3, hy, hyt, hpe, D⟩ := heldP rfl (.inr hac) u m2 w8 hm2 hu.1 hu.2 C
      exact ⟨g1, g2, rfl, g3, g4, rfl, g5, g4, tailP _ m3 y hm3 hy hyt hpe D⟩
    · rw [if_neg (by simpa using hac)]
      exact tailP w4 m1 { x with got := x.got ++ [p] } (Mem.le_refl _) hx1 rfl (fun tl' => by
        have hn : ¬ (x.er.held = none ∨ acc > x.er.best) := by
          rintro (h | h)
          · simp [Pp.er, hh] at h
          · exact hac h
        simp only [promE, if_pos hc, true_and, if_neg hn]; rfl) C
end Go.Proofs
