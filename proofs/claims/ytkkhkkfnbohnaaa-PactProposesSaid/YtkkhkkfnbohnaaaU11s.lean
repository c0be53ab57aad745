import Derived.Test.YtkkhkkfnbohnaaaU11r
set_option linter.unusedVariables false
set_option linter.unusedSimpArgs false
set_option maxRecDepth 10000
namespace Go.Proofs
open Go X RowKit
theorem c_rStartBad (v : Vw) (n : Int) (hr : ∀ p ∈ v.ms, 0 ≤ p.n) (hvn : 0 ≤ v.n) (h : ¬ (v.ok = true ∧ n ≠ 0)) : Ctr Try.prog 25 #[.agg v.row.toArray, .int .u64 n] (fun m => VwM m v) [] (fun _ : Unit => .pointer none) (fun _ _ => True) (fun _ => []) := by
  refine Ctr.mk fun w F m C hv => x_rStart _ _ _ _ _ _ w _ fun w1 L2 h1 g1 => ?_
  refine (c_rRight v hr hvn).call (As := []) (C.hidL h1 g1) hv fun _ m1 w4 hk hm _ C => ⟨_, rfl, hk, ?_⟩
  rw [if_pos (by by_cases h0 : n = 0 <;> simp_all)]
  exact Ctr.ret () rfl trivial C
theorem c_rStart (v : Vw) (n : Int) (hr : ∀ p ∈ v.ms, 0 ≤ p.n) (hvn : 0 ≤ v.n) (h : v.ok = true) (hn : n ≠ 0) : Ctr Try.prog 25 #[.agg v.row.toArray, .int .u64 n] (fun m => VwM m v) [] (fun i : Nat × Rp => .pointer (some ⟨i.1, 0, none⟩)) (fun i m => RpM m i.2 ∧ i.2.er = startE v n) (fun i => [rpA i.1 i.2]) := by
  refine Ctr.mk fun w F m C hv => x_rStart _ _ _ _ _ _ w _ fun w1 L2 h1 g1 => ?_
  have h' := h
  simp only [Vw.ok, decide_eq_true_eq] at h'
  refine (c_rRight v hr hvn).call (As := []) (C.hidL h1 g1) hv fun _ m1 w4 hk hm _ C => ⟨_, rfl, hk, ?_⟩
  rw [if_neg (by simp [h, hn])]
  have D1 := C.alloc (Rp.cells ⟨v, n, 0, [], 0, vl0, false, (none, 0), [], vl0⟩ (none, 0)) 80
  refine Ctr.ret (m' := m1) (L := L2) (w4.heap.size, ⟨v, n, 0, [], 0, vl0, false, (none, 0), [], vl0⟩) rfl
    ⟨⟨MSrc.mono hv hm, by show v.ms.length ≤ _; omega, ⟨.nil .., by simp⟩, by simp, vl0_M _, vl0_M _, by simp, by simp, nodup_of_nodes h'.2.2.2.2.2⟩, rfl⟩ (rpI (none, 0) ?_)
  exact (Ctx.slNil D1).swap
theorem c_rPropose (b : Nat) (x : Rp) (wq : Sl) (wish : List Pr) (hw : wish.length ≤ 100000) :
    Ctr Try.prog 32 #[.pointer (some ⟨b, 0, none⟩), slV wq wish.length] (fun m => RpM m x ∧ MSrc m 2 (slV wq wish.length) wish.length (wish.flatMap Pr.row)) [rpA b x]
      (fun i : Rp × Vl => .tuple #[.agg i.2.row.toArray, .bool (readyE x.er)]) (fun i m => RpM m i.1 ∧ i.1.er = propE x.er wish ∧ VlM m i.2 ∧ i.2.er = (if readyE x.er then i.1.ch.er else ([], []))) (fun i => [rpA b i.1]) := by
  refine Ctr.mk fun w F m C hp => x_rPropose _ _ _ _ w _ fun w1 L2 h1 g1 => ?_
  obtain ⟨hx, hws⟩ := hp
  refine (c_rReady b x).call (As := []) (C.hidL h1 g1) hx fun _ m1 w4 hk hm _ C => ⟨_, rfl, hk, ?_⟩
  replace hx := hx.mono hm
  replace hws := hws.mono hm
  cases hr : readyE x.er with
  | false =>
    rw [if_pos (by decide)]
    exact fun w58 h58 => Ctr.ret (m' := m1) (L := []) (x, vl0) rfl ⟨hx, by rw [propE, hr]; rfl, vl0_M _, rfl⟩ (C.hid0 h58)
  | true =>
  rw [if_neg (by decide)]
  obtain ⟨gq, C⟩ := rpO C
  have D1 := C.store 4 [.int .i64 1] (by simp)
  have D2 := D1.store 5 [.slice none 0 0] (by simp [splice])
  have E0 := (Ctx.slNil (q := none) (ty := 38) (sz := 2) D2).swap.left (As := [_, _]) (Bs := [_])
  have E : Ctx F m w _ L2 m1 (rpL b { x with ph := 1, got := [] } (none, 0)) := E0
  refine ⟨rfl, C.there 4 1 (by simp), C.blkAt.2, rfl, D1.there 5 1 (by simp [splice]), D1.blkAt.2, x.tq.1, x.tl.length, x.tq.2, by rw [Addr.add_mid]; exact E.blkCell (j := 10) rfl, E.blkAt.2, rfl, E.there 11 2 (by simp), E.blkAt.2, ?_⟩
  have hc0 : VlM m1 ⟨wq, wish, x.tq, x.tl⟩ := ⟨hws, hx.tl, hw, hx.tn⟩
  have G : Ctx F m w _ L2 m1 (rpL b { x with ph := 1, got := [], ch := ⟨wq, wish, x.tq, x.tl⟩ } (none, 0)) := E.store 11 [slV wq wish.length, slV x.tq x.tl.length] (by simp)
  refine ⟨x.has, by rw [Addr.add_mid]; exact G.blkCell (j := 9) rfl, G.blkAt.2, ?_⟩
  have fin : ∀ {w'} (c : Vl), VlM m1 c → c.er = x.er.held.getD (wish, x.er.tl) → ∀ {L}, Ctx F m w w' L m1 (rpL b { x with ph := 1, got := [], ch := c } (none, 0)) →
      ∃ (i : Rp × Vl) (m' : Mem) (L : List Nat), Ending.returned (.tuple #[.agg c.row.toArray, .bool true]) = .returned (.tuple #[.agg i.2.row.toArray, .bool (readyE x.er)]) ∧ (RpM m' i.1 ∧ i.1.er = propE x.er wish ∧ VlM m' i.2 ∧ i.2.er = (if readyE x.er then i.1.ch.er else ([], []))) ∧ Ctx F m w w' L m' [rpA b i.1] := fun c hc hce L C => by
    refine ⟨({ x with ph := 1, got := [], ch := c }, c), _, L, by rw [hr], ⟨⟨hx.vw, hx.vl, hx.tl, hx.tn, hc, hx.hv, by simp, by simp, hx.mo⟩, ?_, hc, by rw [hr]; rfl⟩, rpI (x := { x with ph := 1, got := [], ch := c }) (none, 0) C⟩
    rw [propE, hr, if_pos rfl, ← hce]
    rfl
  cases hh : x.has with
  | false =>
    rw [if_neg (by decide)]
    refine ⟨_, _, _, _, _, _, by rw [Addr.add_mid]; exact G.blkCells (vs := [slV wq wish.length, slV x.tq x.tl.length]) (fun k v e => by match k, e with | 0, e => exact e | 1, e => exact e), G.blkAt.2, fun w34 h34 => ?_⟩
    have := fin ⟨wq, wish, x.tq, x.tl⟩ hc0 (by simp [Rp.er, hh, Vl.er]) (G.hid0 h34)
    rw [hr] at this
    exact this
  | true =>
    rw [if_pos rfl]
    refine ⟨_, _, _, _, _, _, by rw [Addr.add_mid]; exact G.blkCells (vs := x.hv.row) (fun k v e => by match k, e with | 0, e => exact e | 1, e => exact e), G.blkAt.2, rfl, G.there 11 2 (by simp), G.blkAt.2, ?_⟩
    have H : Ctx F m w _ L2 m1 (rpL b { x with ph := 1, got := [], ch := x.hv } (none, 0)) := G.store 11 x.hv.row (by simp)
    refine ⟨_, _, _, _, _, _, by rw [Addr.add_mid]; exact H.blkCells (vs := x.hv.row) (fun k v e => by match k, e with | 0, e => exact e | 1, e => exact e), H.blkAt.2, fun w34 h34 => ?_⟩
    have := fin x.hv hx.hv (by simp [Rp.er, hh]) (H.hid0 h34)
    rw [hr] at this
    exact this
theorem c_rAccepted (b : Nat) (x : Rp) (p : Pr) : Ctr Try.prog 34 #[.pointer (some ⟨b, 0, none⟩), .agg p.row.toArray] (fun m => RpM m x) [rpA b x]
      (fun y : Rp => .bool (y.ph == 2)) (fun y m => RpM m y ∧ y.er = accE x.er p) (fun y => [rpA b y]) := by
  refine Ctr.mk fun w F m C hx => x_rAccepted _ _ _ w _ fun w1 L2 h1 g1 => ?_
  obtain ⟨gq, C⟩ := rpO C
  refine (c_rcounts b gq x p 1).call (As := []) (C.hidL h1 g1) hx fun _ m1 w4 hk hm _ C => ⟨_, rfl, hk, ?_⟩
  replace hx := hx.mono hm
  replace C : Ctx F m w w4 L2 m1 (rpL b x gq) := C
  cases hc : countE x.er p 1 with
  | false =>
    rw [if_neg (by decide)]
    exact ⟨x.ph, by rw [Addr.add_mid]; exact C.blkCell (j := 4) rfl, C.blkAt.2, Ctr.ret (m' := m1) (L := L2) x rfl ⟨hx, by rw [accE, hc]; rfl⟩ (rpI gq C)⟩
  | true =>
  rw [if_pos rfl]
  have hc2 := hc
  simp only [countE, Bool.and_eq_true, decide_eq_true_eq, Bool.not_eq_true', decide_eq_false_iff_not] at hc2
  have hgl := got_le hx.once hx.gl
  have hvl := hx.vl
  refine ⟨_, rpF C, gq.1, x.got.length, gq.2, by simp [Addr.add_mid], fun w10 L11 h10 g10 => ?_⟩
  have C2 := C.hidL h10 g10
  have D0 := (C2.alloc p.row 38).pm [2, 1, 0] rfl
  have hcl : Cells _ ⟨w10.heap.size, 0, none⟩ p.row := (C2.alloc p.row 38).blkCells (o := 0) fun k v e => by simpa using e
  refine ⟨rpF D0.swap, ?_⟩
  obtain ⟨q2, c2, w15, hr, hkk, D2⟩ := Ctx.app2 (P := Try.prog) (bytes := 4) (t := 30) (t2 := 30) D0 30 (by kernel_rfl) (.some ⟨w10.heap.size, 0, none⟩ 1 1 p.row rfl hcl) (by unfold maxLen; omega) (by omega) (pr_one _)
  have e1 : (x.got ++ [p]).length = x.got.length + 1 := by simp
  have e2 : (x.got ++ [p]).flatMap Pr.row = x.got.flatMap Pr.row ++ p.row := by simp
  refine ⟨q2, _, c2, w15, hr, hkk, rpF D2.swap, rfl, D2.swap.there 5 1 (by simp), D2.swap.blkAt.2, ?_⟩
  have D3 := D2.swap.store 5 [slV (q2, c2) (x.got.length + 1)] (by simp)
  have hx1 : RpM m1 { x with got := x.got ++ [p] } := by
    refine ⟨hx.vw, hx.vl, hx.tl, hx.tn, hx.ch, hx.hv, ?_, fun q hq => ?_, hx.mo⟩
    · rw [List.nodup_append]
      refine ⟨hx.once, by simp, fun a ha b hb hab => hc2.2 ?_⟩
      have hb : b = p := by simpa using hb
      rw [← hb, ← hab]; exact ha
    · rcases List.mem_append.1 hq with hq | hq
      · exact hx.gl q hq
      · have : q = p := by simpa using hq
        rw [this]; exact hc2.1.2
  have E0 : Ctx F m w (w15.setCells b (0 + 5) [slV (q2, c2) (x.got.length + 1)]) L11 m1 (rpL b { x with got := x.got ++ [p] } (q2, c2)) := by
    have := D3.left (As := [_, _]) (Bs := [_])
    show Ctx F m w _ L11 m1 [blk b (Rp.cells { x with got := x.got ++ [p] } (q2, c2)) 80, slA (slV (q2, c2) (x.got ++ [p]).length) (x.got ++ [p]).length ((x.got ++ [p]).flatMap Pr.row) 38 2]
    rw [e1, e2]
    simp only [Rp.cells, e1]
    exact this
  generalize hy : ({ x with got := x.got ++ [p] } : Rp) = y at hx1 E0
  have hyg : y.er = { x.er with got := x.er.got ++ [p] } := by rw [← hy]; rfl
  have hgl1 := got_le hx1.once hx1.gl
  have hvl1 := hx1.vl
  refine ⟨_, rpF E0, y.vw.g, y.vw.n, y.vw.q.1, y.vw.ms.length, y.vw.q.2, by simp [Addr.add_mid], q2, y.got.length, c2, by simp [Addr.add_mid], fun w26 L27 h26 g26 => ?_⟩
  have E2 : Ctx F m w w26 L27 m1 (gA (q2, c2) y.got :: [rB b y (q2, c2)]) := (E0.hidL h26 g26).swap
  refine (c_rQuorum y.vw (by omega) (q2, c2) y.got (by omega)).callL (A := gA (q2, c2) y.got) (Cs := []) (As := [rB b y (q2, c2)]) E2 (fun F hF hle => ⟨MSrc.mono hx1.vw hle, slLend hF⟩) fun bq w29 hk hq C => ⟨_, rfl, hk, ?_⟩
  have hbq : enoughE y.er = bq := by rw [← quor_eq hx1, hq]; rfl
  have hae : accE x.er p = if bq = true then { y.er with ph := 2 } else y.er := by
    rw [accE, if_pos hc, ← hyg, hbq, hyg]
  have C3 : Ctx F m w w29 L27 m1 (rpL b y (q2, c2)) := C.swap
  cases bq with
  | false =>
    rw [if_neg (by decide)]
    refine ⟨y.ph, by rw [Addr.add_mid]; exact C3.blkCell (j := 4) rfl, C3.blkAt.2, ?_⟩
    exact Ctr.ret (m' := m1) (L := L27) y rfl ⟨hx1, by rw [hae]; rfl⟩ (rpI _ C3)
  | true =>
    rw [if_pos rfl]
    have H : Ctx F m w _ L27 m1 (rpL b { y with ph := 2 } (q2, c2)) := C3.store 4 [.int .i64 2] (by simp)
    refine ⟨rfl, C3.there 4 1 (by simp), C3.blkAt.2, 2, by rw [Addr.add_mid]; exact H.blkCell (j := 4) rfl, H.blkAt.2, ?_⟩
    exact Ctr.ret (m' := m1) (L := L27) { y with ph := 2 } rfl ⟨⟨hx1.vw, hx1.vl, hx1.tl, hx1.tn, hx1.ch, hx1.hv, hx1.once, hx1.gl, hx1.mo⟩, by rw [hae]; rfl⟩ (rpI (x := { y with ph := 2 }) _ H)
def missE (e : Pe) : List Pr := if e.ph = 2 then [] else e.ms.filter fun p => !decide (p ∈ e.got)
theorem c_rMissing (b : Nat) (x : Rp) : Ctr Try.prog 43 #[.pointer (some ⟨b, 0, none⟩)] (fun m => RpM m x) [rpA b x] (fun q : Sl => slV q (missE x.er).length) (fun q m => MSrc m 2 (slV q (missE x.er).length) (missE x.er).length ((missE x.er).flatMap Pr.row)) (fun _ => [rpA b x]) := by
  refine Ctr.mk fun w F m C hx => x_rMissing _ w _ ?_
  obtain ⟨gq, C⟩ := rpO C
  replace C : Ctx F m w w [] m (rpL b x gq) := C
  have hgl := got_le hx.once hx.gl
  have hvl := hx.vl
  let fl : Nat → List Pr := fun j => (x.vw.ms.take j).filter fun p => !decide (p ∈ x.got)
  refine ⟨fun q k c i w' _ => ∃ (j : Nat), i = j ∧ j ≤ x.vw.ms.length ∧ (x.ph = 2 → j = 0) ∧ k = (fl j).length ∧ Ctx F m w w' [] m (slA (.slice q (fl j).length c) (fl j).length ((fl j).flatMap Pr.row) 38 2 :: rpL b x gq), fun _ _ _ i _ => ((x.vw.ms.length : Int) - i).toNat, ⟨0, rfl, by omega, fun _ => rfl, rfl, Ctx.slNil C⟩, ?_⟩
  clear C
  rintro q k c i w7 L8 _ ⟨j, rfl, hj, hph, rfl, D⟩
  have hcell : ∀ {w' L' m'}, Ctx F m w w' L' m' (rB b x gq :: gA gq x.got :: []) → w'.cell? (((⟨b, 0, none⟩ : Addr).add 0).add 2) = some (slV x.vw.q x.vw.ms.length) := fun D => by
    rw [Addr.add_mid, Addr.add_mid]; exact D.blkCell (j := 2) rfl
  have D' : Ctx F m w w7 [] m (rpL b x gq) := D.drop
  refine ⟨_, _, _, hcell D', ?_⟩
  have done : (fl j) = missE x.er → ∃ (i : Sl) (m' : Mem) (L : List Nat), Ending.returned (.slice q (fl j).length c) = .returned (slV i (missE x.er).length) ∧ MSrc m' 2 (slV i (missE x.er).length) (missE x.er).length ((missE x.er).flatMap Pr.row) ∧ Ctx F m w w7 L m' [rpA b x] := fun h => by
    obtain ⟨m2, hm2, hs, D2⟩ := D.slShare
    rw [← h]
    exact ⟨(q, c), m2, [], rfl, hs, rpI gq D2⟩
  by_cases hjl : j < x.vw.ms.length
  rotate_left
  · rw [if_neg (by simpa using hjl)]
    refine done ?_
    have hj2 : j = x.vw.ms.length := by omega
    by_cases h2 : x.ph = 2
    · have := hph h2
      have hl0 : x.vw.ms = [] := List.eq_nil_of_length_eq_zero (by omega)
      simp [fl, missE, Rp.er, h2, hl0]
    · show (x.vw.ms.take j).filter _ = if x.ph = 2 then [] else _
      rw [if_neg h2, hj2, List.take_length]
      rfl
  rw [if_pos (by simpa using hjl)]
  refine ⟨x.ph, by rw [Addr.add_mid]; exact D'.blkCell (j := 4) rfl, ?_⟩
  by_cases h2 : x.ph = 2
  · rw [if_neg (by simp [h2])]
    refine done ?_
    have := hph h2
    subst this
    simp [fl, missE, Rp.er, h2]
  rw [if_pos (by simp [h2])]
  obtain ⟨a, ha, hc⟩ := hx.vw.elem pr_len hjl
  have ha : x.vw.q.1 = some a := ha
  have hfl : ∀ {w' L' As}, Ctx F m w w' L' m (rB b x gq :: As) → FactsW [(a.add (j * 2), x.vw.ms[j].row), (⟨b, 2, none⟩, [slV x.vw.q x.vw.ms.length]), (⟨b, 5, none⟩, [slV gq x.got.length])] w' L' := fun D =>
    D.memFact hc (D.blkFact1 2 _ rfl (D.blkFact1 5 _ rfl (facts_nil _ _)))
  refine ⟨_, hfl D', gq.1, x.got.length, gq.2, by simp [Addr.add_mid], x.vw.q.1, x.vw.ms.length, x.vw.q.2, by simp [Addr.add_mid], by omega, by omega, ?_⟩
  rw [ha, onSome_some, Int.toNat_natCast]
  refine ⟨_, _, List.mem_cons_self, fun w23 h23 => ?_⟩
  have D2 : Ctx F m w w23 [] m (gA gq x.got :: [rB b x gq, slA (.slice q (fl j).length c) (fl j).length ((fl j).flatMap Pr.row) 38 2]) := (D.hid0 h23).pm [2, 1, 0] rfl
  refine (c_rRank gq x.got x.vw.ms[j] (by omega)).callL (A := gA gq x.got) (Cs := []) (As := _) D2 (fun F hF hle => slLend hF) fun r w25 hk hr D3 => ⟨_, rfl, hk.size, ?_⟩
  replace D3 : Ctx F m w w25 [] m (gA gq x.got :: [rB b x gq, slA (.slice q (fl j).length c) (fl j).length ((fl j).flatMap Pr.row) 38 2]) := D3
  refine ⟨hfl (D3.pm [1, 0, 2] rfl), ?_⟩
  have e : IntKind.wrap .i64 ((j : Int) + 1) = ((j + 1 : Nat) : Int) := by rw [w_i64 (by omega) (by omega)]; omega
  have hst : fl (j + 1) = fl j ++ if x.vw.ms[j] ∈ x.got then [] else [x.vw.ms[j]] := by
    show (x.vw.ms.take (j + 1)).filter _ = _
    rw [List.take_succ_eq_append_getElem hjl, List.filter_append]
    congr 1
    by_cases hg : x.vw.ms[j] ∈ x.got <;> simp [hg]
  by_cases hg : x.vw.ms[j] ∈ x.got
  · have : ¬ r < 0 := fun h => hr.1 h hg
    rw [if_neg (by simpa using this), e]
    rw [if_pos hg, List.append_nil] at hst
    exact ⟨⟨j + 1, rfl, hjl, fun h => absurd h h2, by rw [hst], by rw [hst]; exact D3.pm [2, 1, 0] rfl⟩, Nat.le_of_eq (by show ((x.vw.ms.length : Int) - ((j + 1 : Nat) : Int)).toNat + 1 = ((x.vw.ms.length : Int) - (j : Int)).toNat; omega)⟩
  · have := hr.2 hg
    rw [if_pos (by simpa using this)]
    rw [if_neg hg] at hst
    refine ⟨x.vw.q.1, x.vw.ms.length, x.vw.q.2, hcell (D3.pm [1, 0, 2] rfl |>.left (As := [_, _]) (Bs := [_])), by omega, by omega, ?_⟩
    rw [ha, onSome_some]
    refine ⟨_, _, D3.cells hc, ?_⟩
    have D4 := (D3.alloc x.vw.ms[j].row 38).pm [3, 0, 1, 2] rfl
    have hcl : Cells _ ⟨w25.heap.size, 0, none⟩ x.vw.ms[j].row := (D3.alloc x.vw.ms[j].row 38).blkCells (o := 0) fun k v e => by simpa using e
    have hfle : (fl j).length ≤ j := Nat.le_trans (List.length_filter_le _ _) (by rw [List.length_take]; omega)
    obtain ⟨q2, c2, w36, hrun, hkk, D5⟩ := Ctx.app2 (P := Try.prog) (bytes := 4) (t := 30) (t2 := 30) D4 30 (by kernel_rfl) (.some ⟨w25.heap.size, 0, none⟩ 1 1 x.vw.ms[j].row rfl hcl) (by unfold maxLen; omega) (by omega) (pr_one _)
    have e1 : (fl (j + 1)).length = (fl j).length + 1 := by rw [hst]; simp
    have e2 : (fl (j + 1)).flatMap Pr.row = (fl j).flatMap Pr.row ++ x.vw.ms[j].row := by rw [hst]; simp
    refine ⟨q2, _, c2, w36, hrun, hkk.size, ?_⟩
    rw [e]
    refine ⟨⟨j + 1, rfl, hjl, fun h => absurd h h2, e1.symm, ?_⟩, Nat.le_of_eq (by show ((x.vw.ms.length : Int) - ((j + 1 : Nat) : Int)).toNat + 1 = ((x.vw.ms.length : Int) - (j : Int)).toNat; omega)⟩
    rw [e1, e2]
    exact D5.pk [0, 3, 2] [1] rfl
end Go.Proofs
