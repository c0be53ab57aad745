import Derived.Test.YtkkhkkfnbohnaaaU11q
set_option linter.unusedVariables false
set_option linter.unusedSimpArgs false
set_option maxRecDepth 10000
namespace Go.Proofs
open Go X RowKit
/-! ### the document's proposer -/
structure Rp where (vw : Vw) (bn ph : Int) (got : List Pr) (best : Int) (hv : Vl) (has : Bool) (tq : Sl) (tl : List En) (ch : Vl)
@[reducible] def Rp.cells (x : Rp) (gq : Sl) : List Value := [.int .u8 x.vw.g, .int .u32 x.vw.n, slV x.vw.q x.vw.ms.length, .int .u64 x.bn, .int .i64 x.ph, slV gq x.got.length, .int .u64 x.best, slV x.hv.mq x.hv.ms.length, slV x.hv.tq x.hv.ts.length, .bool x.has, slV x.tq x.tl.length, slV x.ch.mq x.ch.ms.length, slV x.ch.tq x.ch.ts.length]
def Rp.er (x : Rp) : Pe := ⟨x.vw.g, x.vw.n, x.vw.ms, x.bn, x.ph, x.best, x.got, if x.has then some x.hv.er else none, x.tl.map En.er, x.ch.er⟩
structure RpM (m : Mem) (x : Rp) : Prop where
  vw : VwM m x.vw
  vl : x.vw.ms.length ≤ 1000
  tl : EsM m x.tq x.tl
  tn : x.tl.length ≤ 100000
  ch : VlM m x.ch
  hv : VlM m x.hv
  once : x.got.Nodup
  gl : ∀ p ∈ x.got, p ∈ x.vw.ms
  mo : x.vw.ms.Nodup
theorem RpM.mono {m m' : Mem} {x : Rp} (h : RpM m x) (hm : m.le m') : RpM m' x := ⟨MSrc.mono h.vw hm, h.vl, h.tl.mono hm, h.tn, h.ch.mono hm, h.hv.mono hm, h.once, h.gl, h.mo⟩
theorem got_le : ∀ {got ms : List Pr}, got.Nodup → (∀ p ∈ got, p ∈ ms) → got.length ≤ ms.length
  | [], _, _, _ => Nat.zero_le _
  | a :: l, ms, h1, h2 => by
    have hm := h2 a (by simp)
    have hn := List.nodup_cons.1 h1
    have := got_le (ms := ms.erase a) hn.2 fun p hp => (List.mem_erase_of_ne (fun e => hn.1 (by rw [← e]; exact hp))).2 (h2 p (by simp [hp]))
    rw [List.length_erase_of_mem hm] at this
    have := List.length_pos_of_mem hm
    simp only [List.length_cons]; omega
abbrev rB (b : Nat) (x : Rp) (gq : Sl) : Asn := blk b (x.cells gq) 80
abbrev gA (gq : Sl) (l : List Pr) : Asn := slA (slV gq l.length) l.length (l.flatMap Pr.row) 38 2
abbrev rpL (b : Nat) (x : Rp) (gq : Sl) : List Asn := [rB b x gq, gA gq x.got]
def rpA (b : Nat) (x : Rp) : Asn := Asn.ex fun gq : Sl => Asn.all (rpL b x gq)
section
variable {F0 : List Nat} {m0 : Mem} {w0 w : World} {L : List Nat} {m : Mem} {As : List Asn}
theorem rpO {b : Nat} {x : Rp} (C : Ctx F0 m0 w0 w L m (rpA b x :: As)) : ∃ gq, Ctx F0 m0 w0 w L m (rpL b x gq ++ As) := by
  obtain ⟨p, C⟩ := C.ex
  exact ⟨p, C.all⟩
theorem rpI {b : Nat} {x : Rp} (gq : Sl) (C : Ctx F0 m0 w0 w L m (rpL b x gq ++ As)) : Ctx F0 m0 w0 w L m (rpA b x :: As) := Ctx.exI gq (Ctx.allI C)
theorem rpF {b : Nat} {x : Rp} {gq : Sl} (C : Ctx F0 m0 w0 w L m (rB b x gq :: As)) : FactsW [(⟨b, 0, none⟩, x.vw.row), (⟨b, 2, none⟩, [slV x.vw.q x.vw.ms.length]), (⟨b, 4, none⟩, [.int .i64 x.ph]), (⟨b, 5, none⟩, [slV gq x.got.length])] w L :=
  C.blkFact 0 x.vw.row (fun k v e => by match k, e with | 0, e => exact e | 1, e => exact e | 2, e => exact e) (C.blkFact1 2 _ rfl (C.blkFact1 4 _ rfl (C.blkFact1 5 _ rfl (facts_nil _ _))))
end
theorem c_rcounts (b : Nat) (gq : Sl) (x : Rp) (p : Pr) (c : Int) : Ctr Try.prog 58 #[.pointer (some ⟨b, 0, none⟩), .agg p.row.toArray, .int .i64 c] (fun m => RpM m x) (rpL b x gq) (fun _ : Unit => .bool (countE x.er p c)) (fun _ _ => True) (fun _ => rpL b x gq) := by
  refine Ctr.mk fun w F m C hx => x_rcounts _ _ _ _ w _ ⟨_, rpF C, x.ph, by simp [Addr.add_mid], ?_⟩
  by_cases hp : x.ph = c
  rotate_left
  · rw [if_neg (by simp [hp])]
    exact ⟨_, rpF C, fun _ h => h, fun w5 h5 => Ctr.ret (m' := m) (L := []) () (by simp [countE, Rp.er, hp]) trivial (C.hid0 h5)⟩
  rw [if_pos (by simp [hp])]
  refine ⟨x.vw.q.1, x.vw.ms.length, x.vw.q.2, by simp [Addr.add_mid], fun w9 L10 h9 g9 => ?_⟩
  refine (c_rRank x.vw.q x.vw.ms p (by have := hx.vl; omega)).call (As := rpL b x gq) (C.hidL h9 g9) hx.vw fun r m2 w12 hk hm hr C => ⟨_, rfl, hk, rpF C, _, rpF C, fun _ h => h, ?_⟩
  replace C : Ctx F m w w12 L10 m2 (rpL b x gq) := C
  by_cases hmem : p ∈ x.vw.ms
  rotate_left
  · rw [if_neg (by have := hr.2 hmem; simp; omega)]
    exact Ctr.ret (m' := m2) () (by simp [countE, Rp.er, hmem]) trivial C
  have hr0 : ¬ r < 0 := fun h => (hr.1 h) hmem
  rw [if_pos (by simp; omega)]
  refine ⟨gq.1, x.got.length, gq.2, by simp [Addr.add_mid], ?_⟩
  have hgl := got_le hx.once hx.gl
  have hvl := hx.vl
  refine (c_rRank gq x.got p (by omega)).callL (A := gA gq x.got) (Cs := []) (As := [rB b x gq]) C.swap (fun F hF hle => slLend hF) fun r2 w20 hk2 hr2 C => ⟨_, rfl, hk2, rpF C.swap, ?_⟩
  refine Ctr.ret (m' := m2) () ?_ trivial C.swap
  have : decide (r2 < 0) = !decide (p ∈ x.got) := by
    by_cases hg : p ∈ x.got
    · have : ¬ r2 < 0 := fun h => hr2.1 h hg
      simp [hg, this]
    · simp [hg, hr2.2 hg]
  rw [this]
  simp [countE, Rp.er, hp, hmem]
def quorE (e : Pe) : Bool := decide ((cntM e.ms e.got : Int) ≥ majE e)
theorem quor_eq {m : Mem} {x : Rp} (h : RpM m x) : quorE x.er = enoughE x.er := by
  have : cntM x.er.ms x.er.got = x.er.got.length := cnt_eq h.once h.gl h.mo
  rw [quorE, enoughE, this]
theorem c_rReady (b : Nat) (x : Rp) : Ctr Try.prog 37 #[.pointer (some ⟨b, 0, none⟩)] (fun m => RpM m x) [rpA b x] (fun _ : Unit => .bool (readyE x.er)) (fun _ _ => True) (fun _ => [rpA b x]) := by
  refine Ctr.mk fun w F m C hx => ?_
  obtain ⟨gq, C⟩ := rpO C
  refine x_rReady _ w _ ⟨_, rpF C, x.ph, by simp [Addr.add_mid], ?_⟩
  by_cases hp : x.ph = 0
  rotate_left
  · rw [if_neg (by simp [hp])]
    exact fun w3 h3 => Ctr.ret (m' := m) (L := []) () (by simp [readyE, Rp.er, hp]) trivial (rpI gq (C.hid0 h3))
  rw [if_pos (by simp [hp])]
  refine ⟨x.vw.g, x.vw.n, x.vw.q.1, x.vw.ms.length, x.vw.q.2, by simp [Addr.add_mid], gq.1, x.got.length, gq.2, by simp [Addr.add_mid], fun w12 h12 => ?_⟩
  have hgl := got_le hx.once hx.gl
  have hvl := hx.vl
  have C2 : Ctx F m w w12 [] m (gA gq x.got :: [rB b x gq]) := (C.hid0 h12).swap
  refine (c_rQuorum x.vw (by omega) gq x.got (by omega)).callL (A := gA gq x.got) (Cs := []) (As := [rB b x gq]) C2 (fun F hF hle => ⟨MSrc.mono hx.vw hle, slLend hF⟩) fun q w14 hk hq C => ⟨_, rfl, hk.size, rpF C.swap, ?_⟩
  refine Ctr.ret (m' := m) (L := []) () ?_ trivial (rpI gq C.swap)
  have e1 : quorE x.er = q := by rw [hq]; rfl
  rw [readyE, ← quor_eq hx, e1]
  simp [Rp.er, hp]
theorem c_rPromise (b : Nat) (x : Rp) (p : Pr) (tq : Sl) (tl : List En) (acc : Int) (v : Vl) (has : Bool) :
    Ctr Try.prog 29 #[.pointer (some ⟨b, 0, none⟩), .agg p.row.toArray, slV tq tl.length, .int .u64 acc, .agg v.row.toArray, .bool has] (fun m => RpM m x ∧ EsM m tq tl ∧ tl.length ≤ 100000 ∧ VlM m v) [rpA b x]
      (fun _ : Rp => .tuple #[]) (fun y m => RpM m y ∧ y.er = promE x.er p (tl.map En.er) acc v.er has) (fun y => [rpA b y]) := by
  refine Ctr.mk fun w F m C hp => x_rPromise _ _ _ _ _ _ _ _ _ _ _ _ _ _ w _ fun w1 L2 h1 g1 => ?_
  obtain ⟨hx, ht, htl, hv⟩ := hp
  obtain ⟨gq, C⟩ := rpO C
  refine (c_rcounts b gq x p 0).call (As := []) (C.hidL h1 g1) hx fun _ m1 w4 hk hm _ C => ⟨_, rfl, hk, ?_⟩
  replace ht := ht.mono hm
  replace hv := hv.mono hm
  replace hx := hx.mono hm
  replace C : Ctx F m w w4 L2 m1 (rpL b x gq) := C
  cases hc : countE x.er p 0 with
  | false =>
    rw [if_pos (by decide)]
    exact Ctr.ret (m' := m1) x rfl ⟨hx, by rw [promE, hc]; rfl⟩ (rpI gq C)
  | true =>
  rw [if_neg (by decide)]
  have hc2 := hc
  simp only [countE, Bool.and_eq_true, decide_eq_true_eq, Bool.not_eq_true', decide_eq_false_iff_not] at hc2
  have hgl := got_le hx.once hx.gl
  have hvl := hx.vl
  refine ⟨_, rpF C, gq.1, x.got.length, gq.2, by simp [Addr.add_mid], fun w10 L11 h10 g10 => ?_⟩
  have C2 := C.hidL h10 g10
  have D0 := (C2.alloc p.row 38).pm [2, 1, 0] rfl
  have hcl : Cells _ ⟨w10.heap.size, 0, none⟩ p.row := (C2.alloc p.row 38).blkCells (o := 0) fun k v e => by simpa using e
  refine ⟨rpF D0.swap, ?_⟩
  obtain ⟨q2, c2, w15, hr, hkk, D2⟩ := Ctx.app2 (P := Try.prog) (bytes := 4) (t := 30) (t2 := 30) D0 30 (by kernel_rfl) (.some ⟨w10.heap.size, 0, none⟩ 1 1 p.row rfl hcl) (by unfold maxLen; omega) (by omega) (pr_one _)
  have e1 : (x.got ++ [p]).length = x.got.length + 1 := by simp
  have e2 : (x.got ++ [p]).flatMap Pr.row = x.got.flatMap Pr.row ++ p.row := by simp
  refine ⟨q2, _, c2, w15, hr, hkk, rpF D2.swap, rfl, D2.swap.there 5 1 (by simp), D2.swap.blkAt.2, ?_⟩
  have D3 := D2.swap.store 5 [slV (q2, c2) (x.got.length + 1)] (by simp)
  have hx1 : RpM m1 { x with got := x.got ++ [p] } := by
    refine ⟨hx.vw, hx.vl, hx.tl, hx.tn, hx.ch, hx.hv, ?_, fun q hq => ?_, hx.mo⟩
    · rw [List.nodup_append]
      refine ⟨hx.once, by simp, fun a ha b hb hab => hc2.2 ?_⟩
      have hb : b = p := by simpa using hb
      rw [← hb, ← hab]; exact ha
    · rcases List.mem_append.1 hq with hq | hq
      · exact hx.gl q hq
      · have : q = p := by simpa using hq
        rw [this]; exact hc2.1.2
  have E0 : Ctx F m w (w15.setCells b (0 + 5) [slV (q2, c2) (x.got.length + 1)]) L11 m1 (rpL b { x with got := x.got ++ [p] } (q2, c2)) := by
    have := D3.left (As := [_, _]) (Bs := [_])
    show Ctx F m w _ L11 m1 [blk b (Rp.cells { x with got := x.got ++ [p] } (q2, c2)) 80, slA (slV (q2, c2) (x.got ++ [p]).length) (x.got ++ [p]).length ((x.got ++ [p]).flatMap Pr.row) 38 2]
    rw [e1, e2]
    simp only [Rp.cells, e1]
    exact this
  generalize w15.setCells b (0 + 5) [slV (q2, c2) (x.got.length + 1)] = W0 at E0 ⊢
  have tailP : ∀ (W : World) (y : Rp), RpM m1 y → y.got = x.got ++ [p] → y.tl = x.tl → (∀ tl', promE x.er p tl' acc v.er has = if tl'.length > x.er.tl.length then { y.er with tl := tl' } else y.er) → Ctx F m w W L11 m1 (rpL b y (q2, c2)) →
      ∃ q k c, World.cell? W ((⟨b, 0, none⟩ : Addr).add 10) = some (.slice q k c) ∧ ¬ b ∈ L11 ∧ if decide (((tl.length : Nat) : Int) > ((k : Nat) : Int)) = true then
        ((none : Option Nat) = none ∧ World.there W b (0 + 10) 1 ∧ ¬ b ∈ L11 ∧
          (fun e w' => ∃ (i : Rp) (m' : Mem) (L : List Nat), e = Ending.returned (.tuple #[]) ∧ (RpM m' i ∧ i.er = promE x.er p (tl.map En.er) acc v.er has) ∧ Ctx F m w w' L m' [rpA b i]) (.returned (.tuple #[])) (W.setCells b (0 + 10) [slV tq tl.length]))
      else (fun e w' => ∃ (i : Rp) (m' : Mem) (L : List Nat), e = Ending.returned (.tuple #[]) ∧ (RpM m' i ∧ i.er = promE x.er p (tl.map En.er) acc v.er has) ∧ Ctx F m w w' L m' [rpA b i]) (.returned (.tuple #[])) W := by
    intro W y hy hyg hyt hpe C
    refine ⟨y.tq.1, y.tl.length, y.tq.2, by rw [Addr.add_mid]; exact C.blkCell (j := 10) rfl, C.blkAt.2, ?_⟩
    have hlx : x.er.tl.length = x.tl.length := by simp [Rp.er]
    by_cases hgt : tl.length > x.tl.length
    · rw [if_pos (by rw [hyt]; simpa using hgt)]
      have D := C.store 10 [slV tq tl.length] (by simp)
      refine ⟨rfl, C.there 10 1 (by simp), C.blkAt.2, { y with tq := tq, tl := tl }, m1, L11, rfl, ⟨⟨hy.vw, hy.vl, ht, htl, hy.ch, hy.hv, hy.once, hy.gl, hy.mo⟩, ?_⟩, rpI (x := { y with tq := tq, tl := tl }) (q2, c2) D⟩
      rw [hpe, if_pos (by rw [List.length_map, hlx]; exact hgt)]
      rfl
    · rw [if_neg (by rw [hyt]; simpa using hgt)]
      exact ⟨y, m1, L11, rfl, ⟨hy, by rw [hpe, if_neg (by rw [List.length_map, hlx]; exact hgt)]⟩, rpI (q2, c2) C⟩
  have heldP : has = true → (x.has = false ∨ acc > x.best) → Ctx F m w W0 L11 m1 (rpL b { x with got := x.got ++ [p] } (q2, c2)) →
      World.there W0 b (0 + 9) 1 ∧ (¬ b ∈ L11) ∧ World.there (W0.setCells b (0 + 9) [.bool true]) b (0 + 6) 1 ∧ World.there ((W0.setCells b (0 + 9) [.bool true]).setCells b (0 + 6) [.int .u64 acc]) b (0 + 7) 2 ∧
      ∃ y, RpM m1 y ∧ y.got = x.got ++ [p] ∧ y.tl = x.tl ∧ (∀ tl', promE x.er p tl' acc v.er has = if tl'.length > x.er.tl.length then { y.er with tl := tl' } else y.er) ∧
        Ctx F m w (((W0.setCells b (0 + 9) [.bool true]).setCells b (0 + 6) [.int .u64 acc]).setCells b (0 + 7) v.row) L11 m1 (rpL b y (q2, c2)) := by
    intro hh ho C
    have D1 := C.store 9 [.bool true] (by simp)
    have D2 := D1.store 6 [.int .u64 acc] (by simp [splice])
    have D3 := D2.store 7 v.row (by simp [splice])
    refine ⟨C.there 9 1 (by simp), C.blkAt.2, D1.there 6 1 (by simp [splice]), D2.there 7 2 (by simp [splice]), { x with got := x.got ++ [p], best := acc, hv := v, has := true }, ⟨hx1.vw, hx1.vl, hx1.tl, hx1.tn, hx1.ch, hv, hx1.once, hx1.gl, hx1.mo⟩, rfl, rfl, fun tl' => ?_, D3⟩
    have hxe : x.er.held = none ∨ acc > x.er.best := by
      rcases ho with ho | ho
      · exact .inl (by simp [Rp.er, ho])
      · exact .inr ho
    rw [promE, if_pos hc]
    simp only [hh, true_and, if_pos hxe]
    rfl
  cases has with
  | false =>
    rw [if_neg (by decide)]
    exact tailP W0 { x with got := x.got ++ [p] } hx1 rfl rfl (fun tl' => by rw [promE, if_pos hc]; simp [Rp.er]) E0
  | true =>
  rw [if_pos (by decide)]
  refine ⟨x.has, by rw [Addr.add_mid]; exact E0.blkCell (j := 9) rfl, E0.blkAt.2, ?_⟩
  cases hh : x.has with
  | false =>
    rw [if_neg (by decide)]
    obtain ⟨g1, g2, g3, g4, y, hy, hyg, hyt, hpe, D⟩ := heldP rfl (.inl hh) E0
    exact ⟨rfl, g1, g2, rfl, g3, g2, rfl, g4, g2, tailP _ y hy hyg hyt hpe D⟩
  | true =>
    rw [if_pos (by decide)]
    refine ⟨x.best, by rw [Addr.add_mid]; exact E0.blkCell (j := 6) rfl, E0.blkAt.2, ?_⟩
    by_cases hac : acc > x.best
    · rw [if_pos (by simpa using hac)]
      obtain ⟨g1, g2, g3, g4, y, hy, hyg, hyt, hpe, D⟩ := heldP rfl (.inr hac) E0
      exact ⟨rfl, g1, g2, rfl, g3, g2, rfl, g4, g2, tailP _ y hy hyg hyt hpe D⟩
    · rw [if_neg (by simpa using hac)]
      exact tailP W0 { x with got := x.got ++ [p] } hx1 rfl rfl (fun tl' => by
        have hn : ¬ (x.er.held = none ∨ acc > x.er.best) := by
          rintro (h | h)
          · simp [Rp.er, hh] at h
          · exact hac h
        simp only [promE, if_pos hc, true_and, if_neg hn]; rfl) E0
end Go.Proofs
