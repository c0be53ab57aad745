import Derived.Test.YtkkhkkfnbohnaaaU11e
set_option linter.unusedVariables false
set_option linter.unusedSimpArgs false
set_option maxRecDepth 10000
namespace Go.Proofs
open Go X RowKit
def startE (v : Vw) (n : Int) : Pe := ⟨v.g, v.n, v.ms, n, 0, 0, [], none, [], ([], [])⟩
theorem c_StartBad (v : Vw) (n : Int) (hr : ∀ p ∈ v.ms, 0 ≤ p.n) (h : ¬ (v.ok = true ∧ n ≠ 0)) : Ctr Try.prog 23 #[.agg v.row.toArray, .int .u64 n] (fun m => VwM m v) [] (fun _ : Unit => .pointer none) (fun _ _ => True) (fun _ => []) := by
  refine Ctr.mk fun w F m C hv => x_Start _ _ _ _ _ _ w _ fun w1 L2 h1 g1 => ?_
  refine (c_vRight v hr).call (As := []) (C.hidL h1 g1) hv fun _ m1 w4 hk hm _ C => ⟨_, rfl, hk, ?_⟩
  rw [if_pos (by by_cases h0 : n = 0 <;> simp_all)]
  exact Ctr.ret () rfl trivial C
theorem c_Start (v : Vw) (n : Int) (hr : ∀ p ∈ v.ms, 0 ≤ p.n) (h : v.ok = true) (hn : n ≠ 0) : Ctr Try.prog 23 #[.agg v.row.toArray, .int .u64 n] (fun m => VwM m v) [] (fun i : Nat × Nat × Pp => .pointer (some ⟨i.1, 0, none⟩)) (fun i m => PpM m i.2.2 ∧ i.2.2.er = startE v n) (fun i => ppA i.1 i.2.1 i.2.2) := by
  refine Ctr.mk fun w F m C hv => x_Start _ _ _ _ _ _ w _ fun w1 L2 h1 g1 => ?_
  have hl : v.ms.length ≤ 8 := by simp only [Vw.ok, decide_eq_true_eq] at h; exact h.2.2.2.1
  refine (c_vRight v hr).call (As := []) (C.hidL h1 g1) hv fun _ m1 w4 hk hm _ C => ⟨_, rfl, hk, ?_⟩
  rw [if_neg (by simp [h, hn])]
  refine (c_CloneVw v (by omega)).call (As := []) C (MSrc.mono hv hm) fun q m2 w7 hk hm2 hq C => ⟨_, _, _, _, _, rfl, hk, ?_⟩
  have D0 := C.mapNew encP encB
  have D1 := D0.alloc (Pp.cells ⟨{ v with q := q }, n, 0, 0, [], none, (none, 0), [], vl0⟩ w7.heap.size) 106
  exact Ctr.ret (m' := m2) (L := L2) ((w7.alloc (.map #[] 0)).heap.size, w7.heap.size, ⟨{ v with q := q }, n, 0, 0, [], none, (none, 0), [], vl0⟩) rfl
    ⟨⟨hq, by show v.ms.length ≤ _; omega, ⟨.nil .., by simp⟩, by simp, vl0_M _, (fun h hh => by cases hh), by simp, by simp⟩, rfl⟩ D1
def Pp.acc (x : Pp) (p : Pr) : Pp := if countE x.er p 1 then (if enoughE (x.put p 1).er then { x.put p 1 with ph := 2 } else x.put p 1) else x
theorem acc_M {m : Mem} {x : Pp} {p : Pr} (h : PpM m x) : PpM m (x.acc p) := by
  unfold Pp.acc
  split
  · split
    · have h2 := put_M (p := p) (ph := 1) h
      exact ⟨h2.vw, h2.vl, h2.tl, h2.tn, h2.ch, h2.hd, h2.once, h2.gl⟩
    · exact put_M h
  · exact h
theorem c_Accepted (b mp : Nat) (x : Pp) (p : Pr) : Ctr Try.prog 33 #[.pointer (some ⟨b, 0, none⟩), .agg p.row.toArray] (fun m => PpM m x) (ppA b mp x) (fun _ : Unit => .bool ((x.acc p).ph == 2)) (fun _ m => PpM m (x.acc p)) (fun _ => ppA b mp (x.acc p)) := by
  refine Ctr.mk fun w F m C hx => x_Accepted _ _ _ w _ fun w1 L2 h1 g1 => ?_
  refine (c_count b mp x p 1).call (As := []) (C.hidL h1 g1) hx fun _ m1 w4 hk hm hx1 C => ⟨_, rfl, hk, ?_⟩
  replace C : Ctx F m w w4 L2 m1 (ppA b mp (x.put p 1)) := C
  have ha := acc_M (p := p) (hx.mono hm)
  cases hc : countE x.er p 1 with
  | false =>
    have e : x.put p 1 = x := by rw [Pp.put, hc]; rfl
    have ea : x.acc p = x := by rw [Pp.acc, hc]; rfl
    rw [if_neg (by decide)]
    rw [e] at C
    rw [ea] at ha
    refine (c_Phase b mp x).call (As := []) C trivial fun _ m2 w7 hk hm2 _ C => ⟨_, rfl, hk, ?_⟩
    rw [ea]
    exact Ctr.ret (m' := m2) () rfl (ha.mono hm2) C
  | true =>
    rw [if_pos (by decide)]
    refine (c_enough b mp (x.put p 1)).call (As := []) C hx1 fun _ m2 w10 hk hm2 _ C => ⟨_, rfl, hk, ?_⟩
    replace C : Ctx F m w w10 L2 m2 (ppA b mp (x.put p 1)) := C
    cases he : enoughE (x.put p 1).er with
    | false =>
      have ea : x.acc p = x.put p 1 := by rw [Pp.acc, hc, he]; rfl
      rw [if_neg (by decide)]
      refine (c_Phase b mp (x.put p 1)).call (As := []) C trivial fun _ m3 w13 hk hm3 _ C => ⟨_, rfl, hk, ?_⟩
      rw [ea] at ha ⊢
      exact Ctr.ret (m' := m3) () rfl (ha.mono (hm2.le_trans hm3)) C
    | true =>
      have ea : x.acc p = { x.put p 1 with ph := 2 } := by rw [Pp.acc, hc, he]; rfl
      rw [if_pos (by decide)]
      refine ⟨rfl, C.there 4 1 (by simp), C.blkAt.2, ?_⟩
      have D : Ctx F m w _ L2 m2 (ppA b mp { x.put p 1 with ph := 2 }) := C.store 4 [.int .i64 2] (by simp)
      refine (c_Phase b mp { x.put p 1 with ph := 2 }).call (As := []) D trivial fun _ m3 w13 hk hm3 _ C => ⟨_, rfl, hk, ?_⟩
      rw [ea] at ha ⊢
      exact Ctr.ret (m' := m3) () rfl (ha.mono (hm2.le_trans hm3)) C
def propE (e : Pe) (wish : List Pr) : Pe := if readyE e then { e with ph := 1, got := [], ch := e.held.getD (wish, e.tl) } else e
theorem c_Propose (b mp : Nat) (x : Pp) (wq : Sl) (wish : List Pr) (hw : wish.length ≤ 100000) :
    Ctr Try.prog 30 #[.pointer (some ⟨b, 0, none⟩), slV wq wish.length] (fun m => PpM m x ∧ MSrc m 2 (slV wq wish.length) wish.length (wish.flatMap Pr.row)) (ppA b mp x)
      (fun i : Pp × Vl => .tuple #[.agg i.2.row.toArray, .bool (readyE x.er)]) (fun i m => PpM m i.1 ∧ i.1.er = propE x.er wish ∧ VlM m i.2 ∧ i.2.er = (if readyE x.er then i.1.ch.er else ([], []))) (fun i => ppA b mp i.1) := by
  refine Ctr.mk fun w F m C hp => x_Propose _ _ _ _ w _ fun w1 L2 h1 g1 => ?_
  obtain ⟨hx, hws⟩ := hp
  refine (c_Ready b mp x).call (As := []) (C.hidL h1 g1) hx fun _ m1 w4 hk hm _ C => ⟨_, rfl, hk, ?_⟩
  replace C : Ctx F m w w4 L2 m1 (ppA b mp x) := C
  replace hx := hx.mono hm
  cases hr : readyE x.er with
  | false =>
    rw [if_pos (by decide)]
    exact fun w58 h58 => Ctr.ret (m' := m1) (L := []) (x, vl0) rfl ⟨hx, by rw [propE, hr]; rfl, vl0_M _, rfl⟩ (C.hid0 h58)
  | true =>
  rw [if_neg (by decide)]
  refine ⟨rfl, C.there 4 1 (by simp), C.blkAt.2, ?_⟩
  have D : Ctx F m w _ L2 m1 (ppA b mp { x with ph := 1 }) := C.store 4 [.int .i64 1] (by simp)
  refine ⟨some mp, by rw [Addr.add_mid]; exact D.blkCell (j := 5) rfl, D.blkAt.2, ?_⟩
  obtain ⟨w7, hr7, hk7, E0⟩ := Ctx.mclear (P := Try.prog) (ty := 0) t103 D.swap
  have E : Ctx F m w w7 L2 m1 (ppA b mp { x with ph := 1, got := [] }) := E0.swap
  refine ⟨w7, hr7, hk7, x.tq.1, x.tl.length, x.tq.2, by rw [Addr.add_mid]; exact E.blkCell (j := 8) rfl, E.blkAt.2, ?_⟩
  refine (c_cloneV ⟨wq, wish, x.tq, x.tl⟩).call (As := _) E ⟨hws.mono hm, hx.tl, hw, hx.tn⟩ fun u m2 w12 hk hm2 hu C => ⟨_, _, _, _, _, _, rfl, hk, rfl, C.there 9 2 (by simp), C.blkAt.2, ?_⟩
  have G : Ctx F m w _ L2 m2 (ppA b mp { x with ph := 1, got := [], ch := u }) := C.store 9 u.row (by simp)
  have hx2 := hx.mono hm2
  refine ⟨x.held.map (·.1), by rw [Addr.add_mid]; exact G.blkCell (j := 7) rfl, G.blkAt.2, ?_⟩
  have fin : ∀ {w' m3} (c : Vl), m2.le m3 → VlM m3 c → c.er = x.er.held.getD (wish, x.er.tl) → ∀ (t : Vl), VlM m3 t → t.er = c.er → ∀ {L}, Ctx F m w w' L m3 (ppA b mp { x with ph := 1, got := [], ch := c }) →
      ∃ (i : Pp × Vl) (m' : Mem) (L : List Nat), Ending.returned (.tuple #[.agg t.row.toArray, .bool true]) = .returned (.tuple #[.agg i.2.row.toArray, .bool (readyE x.er)]) ∧ (PpM m' i.1 ∧ i.1.er = propE x.er wish ∧ VlM m' i.2 ∧ i.2.er = (if readyE x.er then i.1.ch.er else ([], []))) ∧ Ctx F m w w' L m' (ppA b mp i.1) := fun c hm3 hc hce t ht hte L C => by
    have hx3 := hx2.mono hm3
    refine ⟨({ x with ph := 1, got := [], ch := c }, t), _, L, by rw [hr], ⟨⟨hx3.vw, hx3.vl, hx3.tl, hx3.tn, hc, hx3.hd, by simp, by simp⟩, ?_, ht, by rw [hr]; exact hte⟩, C⟩
    rw [propE, hr, if_pos rfl, ← hce]
    rfl
  cases hh : x.held with
  | none =>
    rw [if_neg (by simp)]
    refine ⟨_, _, _, _, _, _, by rw [Addr.add_mid]; exact G.blkCells (vs := u.row) (fun k v e => by match k, e with | 0, e => exact e | 1, e => exact e), G.blkAt.2, ?_⟩
    refine (c_cloneV u).call (As := _) G hu.1 fun t m3 w27 hk hm3 ht C => ⟨_, _, _, _, _, _, rfl, hk, fun w34 h34 => ?_⟩
    have := fin u hm3 (hu.1.mono hm3) (by rw [hu.2]; simp [Pp.er, hh, Vl.er]) t ht.1 ht.2 (C.hid0 h34)
    rw [hr] at this
    exact this
  | some hd =>
    obtain ⟨hc1, hc2⟩ := hx2.hd hd hh
    rw [if_pos (by simp)]
    refine ⟨some hd.1, by rw [Addr.add_mid]; refine G.blkCell (j := 9 - 2) ?_; simp [hh], G.blkAt.2, ?_⟩
    rw [onSome_some]
    refine ⟨_, _, _, _, _, _, G.cells hc1, G.cellsL hc1, rfl, G.there 9 2 (by simp), G.blkAt.2, ?_⟩
    have H : Ctx F m w _ L2 m2 (ppA b mp { x with ph := 1, got := [], ch := hd.2 }) := G.store 9 hd.2.row (by simp)
    refine ⟨_, _, _, _, _, _, by rw [Addr.add_mid]; exact H.blkCells (vs := hd.2.row) (fun k v e => by match k, e with | 0, e => exact e | 1, e => exact e), H.blkAt.2, ?_⟩
    refine (c_cloneV hd.2).call (As := _) H hc2 fun t m3 w27 hk hm3 ht C => ⟨_, _, _, _, _, _, rfl, hk, fun w34 h34 => ?_⟩
    have := fin hd.2 hm3 (hc2.mono hm3) (by simp [Pp.er, hh]) t ht.1 ht.2 (C.hid0 h34)
    rw [hr] at this
    exact this
end Go.Proofs
