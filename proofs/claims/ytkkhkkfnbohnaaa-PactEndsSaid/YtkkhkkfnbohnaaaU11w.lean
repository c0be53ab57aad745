import Derived.Test.YtkkhkkfnbohnaaaU11v
set_option linter.unusedVariables false
set_option linter.unusedSimpArgs false
set_option maxRecDepth 10000
namespace Go.Proofs
open Go X RowKit
structure St where (k x y z r : Int)
@[reducible] def St.row (s : St) : List Value := [.int .i64 s.k, .int .i64 s.x, .int .i64 s.y, .int .i64 s.z, .int .i64 s.r]
theorem st_len (s : St) : s.row.length = 5 := rfl
def ix (n : Nat) (x : Int) : Nat := (x % n).toNat
theorem ix_lt {n : Nat} (h : 1 ≤ n) (x : Int) : ix n x < n := by
  have := Int.emod_lt_of_pos x (b := n) (by omega)
  have := Int.emod_nonneg x (b := n) (by omega)
  unfold ix; omega
theorem ix_eq {n : Nat} (h1 : 1 ≤ n) (h2 : n ≤ 100) (x : Int) : (IntKind.i64.wrap (x.tmod n + n)).tmod n = (ix n x : Nat) := by
  have a1 := Int.emod_lt_of_pos x (b := n) (by omega)
  have a2 := Int.emod_nonneg x (b := n) (by omega)
  have e1 := Int.tmod_eq_emod (a := x) (b := n)
  have e3 : ((ix n x : Nat) : Int) = x % n := by unfold ix; omega
  have hr : -(n : Int) < x.tmod n ∧ x.tmod n < n := by
    rw [e1]; split <;> simp <;> omega
  rw [w_i64 (by omega) (by omega), Int.tmod_eq_emod_of_nonneg (by omega), e3, e1]
  split
  · simp
  · simp
/-! ### the field, wherever its lists lie -/
abbrev VE := List Pr × List Ev
structure Ae where (pr ac : Int) (v : VE)
def Acp.er (x : Acp) : Ae := ⟨x.pr, x.ac, x.v.er⟩
structure Fe where (n : Nat) (a : Nat → Ae) (p : Nat → Option Pe) (v : Nat → VE) (w : Nat → Bool)
def aE : Option Ac1 → Ae
  | none => ⟨0, 0, ([], [])⟩
  | some z => z.2.er
def Fc.er (F : Fc) : Fe := ⟨F.n, fun i => aE (F.a i), fun i => poE (F.p i), fun i => (F.v i).er, F.w⟩
theorem er_setA (F : Fc) (i : Nat) (z : Option Ac1) : (F.setA i z).er = { F.er with a := upd F.er.a i (aE z) } := by
  have : (fun j => aE (upd F.a i z j)) = upd (fun j => aE (F.a j)) i (aE z) := by funext j; unfold upd; split <;> rfl
  simp only [Fc.er, this]
theorem er_setP (F : Fc) (i : Nat) (z : Option Pp1) : (F.setP i z).er = { F.er with p := upd F.er.p i (poE z) } := by
  have : (fun j => poE (upd F.p i z j)) = upd (fun j => poE (F.p j)) i (poE z) := by funext j; unfold upd; split <;> rfl
  simp only [Fc.er, this]
theorem er_setV (F : Fc) (i : Nat) (z : Vl) : (F.setV i z).er = { F.er with v := upd F.er.v i z.er } := by
  have : (fun j => (upd F.v i z j).er) = upd (fun j => (F.v j).er) i z.er := by funext j; unfold upd; split <;> rfl
  simp only [Fc.er, this]
theorem er_setW (F : Fc) (i : Nat) (z : Bool) : (F.setW i z).er = { F.er with w := upd F.er.w i z } := rfl
def balE : Option Pe → Int
  | none => 0
  | some e => e.bn
theorem balO_er (z : Option Pp1) : balO z = balE (poE z) := by cases z <;> rfl
def prepB (a : Ae) (n : Int) : Bool := if n = 0 ∨ n < a.pr then false else true
theorem prepF_B (x : Acp) (n : Int) : (prepF x n).1 = prepB x.er n := by unfold prepF prepB Acp.er; split <;> rfl
abbrev prc (i : Nat) : Pr := ⟨(i : Int), 1⟩
def procs (n : Nat) : List Pr := (List.range n).map prc
def startP (n : Nat) (b : Int) : Pe := ⟨0, 1, procs n, b, 0, 0, [], none, [], ([], [])⟩
def stepE (e : Fe) (s : St) (top : Int) : Fe × Int :=
  if s.k == 0 then ({ e with p := upd e.p (ix e.n s.x) (some (startP e.n (bal (top + 1) (ix e.n s.x : Nat)))), w := upd e.w (ix e.n s.x) false }, top + 1)
  else if s.k == 1 then
    if prepB (e.a (ix e.n s.x)) (balE (e.p (ix e.n s.y))) then
      ({ e with a := upd e.a (ix e.n s.x) { e.a (ix e.n s.x) with pr := balE (e.p (ix e.n s.y)) },
                p := upd e.p (ix e.n s.y) ((e.p (ix e.n s.y)).map fun q => promE q (prc (ix e.n s.x)) (tailE (ix e.n s.x)) (e.a (ix e.n s.x)).ac (if (e.a (ix e.n s.x)).ac = 0 then ([], []) else (e.a (ix e.n s.x)).v) (decide ((e.a (ix e.n s.x)).ac ≠ 0))) }, top)
    else (e, top)
  else if s.k == 2 then
    if rdO (e.p (ix e.n s.x)) then
      ({ e with p := upd e.p (ix e.n s.x) ((e.p (ix e.n s.x)).map fun q => propE q [prc (ix 9 s.z + 1)]),
                v := upd e.v (ix e.n s.x) (chO ((e.p (ix e.n s.x)).map fun q => propE q [prc (ix 9 s.z + 1)])),
                w := upd e.w (ix e.n s.x) true }, top)
    else (e, top)
  else if s.k == 3 then
    if e.w (ix e.n s.y) && prepB (e.a (ix e.n s.x)) (balE (e.p (ix e.n s.y))) then
      ({ e with a := upd e.a (ix e.n s.x) ⟨balE (e.p (ix e.n s.y)), balE (e.p (ix e.n s.y)), e.v (ix e.n s.y)⟩,
                p := upd e.p (ix e.n s.y) ((e.p (ix e.n s.y)).map fun q => accE q (prc (ix e.n s.x))) }, top)
    else (e, top)
  else (e, top)
/-! ### the field's step -/
structure Fc.M (F : Fc) (m : Mem) : Prop where
  a : ∀ i z, F.a i = some z → VlM m z.2.v
  p : ∀ i, PoM m (F.p i)
  v : ∀ i, VlM m (F.v i)
theorem Fc.M.mono {F : Fc} {m m' : Mem} (h : F.M m) (hm : m.le m') : F.M m' := ⟨fun i z e => (h.a i z e).mono hm, fun i => (h.p i).mono hm, fun i => (h.v i).mono hm⟩
structure Fc.ok (F : Fc) : Prop where
  n1 : 1 ≤ F.n
  n5 : F.n ≤ 5
  a : ∀ i, i < 5 → ∃ z, F.a i = some z
theorem M_setA {F : Fc} {m : Mem} {i : Nat} {z : Ac1} (h : F.M m) (hz : VlM m z.2.v) : (F.setA i (some z)).M m :=
  ⟨fun j y e => by simp only [upd] at e; split at e; (injection e with e; subst e; exact hz); exact h.a j y e, h.p, h.v⟩
theorem M_setP {F : Fc} {m : Mem} {i : Nat} {z : Option Pp1} (h : F.M m) (hz : PoM m z) : (F.setP i z).M m :=
  ⟨h.a, fun j => by show PoM m (upd F.p i z j); unfold upd; split; exact hz; exact h.p j, h.v⟩
theorem M_setV {F : Fc} {m : Mem} {i : Nat} {z : Vl} (h : F.M m) (hz : VlM m z) : (F.setV i z).M m :=
  ⟨h.a, h.p, fun j => by show VlM m (upd F.v i z j); unfold upd; split; exact hz; exact h.v j⟩
theorem ok_setA {F : Fc} {i : Nat} {z : Ac1} (h : F.ok) : (F.setA i (some z)).ok := ⟨h.n1, h.n5, fun j hj => by show ∃ y, upd F.a i (some z) j = some y; unfold upd; split; exact ⟨_, rfl⟩; exact h.a j hj⟩
theorem ok_setP {F : Fc} {i : Nat} {z : Option Pp1} (h : F.ok) : (F.setP i z).ok := ⟨h.n1, h.n5, h.a⟩
theorem ok_setV {F : Fc} {i : Nat} {z : Vl} (h : F.ok) : (F.setV i z).ok := ⟨h.n1, h.n5, h.a⟩
theorem ok_setW {F : Fc} {i : Nat} {z : Bool} (h : F.ok) : (F.setW i z).ok := ⟨h.n1, h.n5, h.a⟩
theorem call0 {F0 : List Nat} {m0 : Mem} {w0 w : World} {L : List Nat} {m : Mem} {P : Program} {f : FuncId} {args : Array Value} {pre : Mem → Prop} {Cs : List Asn} {ι : Type} {r : ι → Value} {post : ι → Mem → Prop} {Bs : ι → List Asn} {R : Ending → World → Prop}
    (s : Ctr P f args pre Cs r post Bs) (C : Ctx F0 m0 w0 w L m Cs) (hp : pre m)
    (k : ∀ i m' w', Kept L w w' → m.le m' → post i m' → Ctx F0 m0 w0 w' L m' (Bs i) → R (.returned (r i)) w') : CallX P f args w R :=
  s.call (As := []) (C.perm (by rw [List.append_nil])) hp fun i m' w' a b c D => k i m' w' a b c (D.perm (by rw [List.append_nil]))
section
variable {F0 : List Nat} {m0 : Mem} {w0 w : World} {L : List Nat} {m : Mem} {As : List Asn} {F : Fc} {fb i : Nat}
theorem storeP (C : Ctx F0 m0 w0 w L m (blk fb F.cells 94 :: As)) (hi : i < 5) (z : Option Pp1) : Ctx F0 m0 w0 (w.setCells fb (6 + i) [ptP z]) L m (blk fb (F.setP i z).cells 94 :: As) := by
  rw [← F.spP hi z]; exact C.store (6 + i) [ptP z] (by rw [F.len]; simp; omega)
theorem storeV (C : Ctx F0 m0 w0 w L m (blk fb F.cells 94 :: As)) (hi : i < 5) (z : Vl) : Ctx F0 m0 w0 (w.setCells fb (11 + i * 2) z.row) L m (blk fb (F.setV i z).cells 94 :: As) := by
  rw [← F.spV hi z]; exact C.store (11 + i * 2) z.row (by rw [F.len]; simp; omega)
theorem storeW (C : Ctx F0 m0 w0 w L m (blk fb F.cells 94 :: As)) (hi : i < 5) (z : Bool) : Ctx F0 m0 w0 (w.setCells fb (21 + i) [.bool z]) L m (blk fb (F.setW i z).cells 94 :: As) := by
  rw [← F.spW hi z]; exact C.store (21 + i) [.bool z] (by rw [F.len]; simp; omega)
theorem storeA (C : Ctx F0 m0 w0 w L m (blk fb F.cells 94 :: As)) (hi : i < 5) (z : Option Ac1) : Ctx F0 m0 w0 (w.setCells fb (1 + i) [ptA z]) L m (blk fb (F.setA i z).cells 94 :: As) := by
  rw [← F.spA hi z]; exact C.store (1 + i) [ptA z] (by rw [F.len]; simp; omega)
theorem putP {c : Asn} {z : Option Pp1} (C : Ctx F0 m0 w0 w L m (c :: ((F.aR ++ F.pR) ++ pL z))) (hi : i < 5) : Ctx F0 m0 w0 w L m (c :: ((F.setP i z).aR ++ (F.setP i z).pR)) := by
  refine backP (Ctx.left (Bs := pL (F.p i)) (C.perm ?_)) hi
  refine List.Perm.trans ?_ (List.Perm.append_right _ List.perm_middle.symm)
  refine List.Perm.cons _ ?_
  have h1 := (F.pR_pick hi)
  calc (F.aR ++ F.pR ++ pL z).Perm (F.aR ++ (pL (F.p i) ++ F.pO i) ++ pL z) := (h1.append_left _).append_right _
    _ = F.aR ++ (pL (F.p i) ++ (F.pO i ++ pL z)) := by simp
    _ |>.Perm (F.aR ++ ((F.pO i ++ pL z) ++ pL (F.p i))) := List.perm_append_comm.append_left _
    _ = (F.aR ++ F.pO i) ++ pL z ++ pL (F.p i) := by simp
    _ |>.Perm (pL z ++ (F.aR ++ F.pO i) ++ pL (F.p i)) := List.perm_append_comm.append_right _
theorem fcP (C : Ctx F0 m0 w0 w L m (blk fb F.cells 94 :: As)) (hi : i < 5) : FactsW [(⟨fb, 6 + i, none⟩, [ptP (F.p i)])] w L := C.blkFact1 (6 + i) _ (Fc.cellP hi) (facts_nil _ _)
theorem fc4 {j : Nat} (C : Ctx F0 m0 w0 w L m (blk fb F.cells 94 :: As)) (hi : i < 5) (hj : j < 5) : FactsW [(⟨fb, 21 + j, none⟩, [.bool (F.w j)]), (⟨fb, 1 + i, none⟩, [ptA (F.a i)]), (⟨fb, 6 + j, none⟩, [ptP (F.p j)]), (⟨fb, 11 + j * 2, none⟩, (F.v j).row)] w L :=
  C.blkFact1 (21 + j) _ (Fc.cellW hj) (C.blkFact1 (1 + i) _ (Fc.cellA hi) (C.blkFact1 (6 + j) _ (Fc.cellP hj) (C.blkFact (11 + j * 2) (F.v j).row (Fc.cellV hj) (facts_nil _ _))))
end
theorem ok_procs (n : Nat) (h1 : 1 ≤ n) (h5 : n ≤ 5) (q : Sl) : Vw.ok ⟨0, 1, q, procs n⟩ = true := by
  match n, h1, h5 with
  | 1, _, _ => simp [Vw.ok, okL, Pr.ok, procs, List.range, List.range.loop]
  | 2, _, _ => simp [Vw.ok, okL, Pr.ok, procs, List.range, List.range.loop]
  | 3, _, _ => simp [Vw.ok, okL, Pr.ok, procs, List.range, List.range.loop]
  | 4, _, _ => simp [Vw.ok, okL, Pr.ok, procs, List.range, List.range.loop]
  | 5, _, _ => simp [Vw.ok, okL, Pr.ok, procs, List.range, List.range.loop]
theorem procs_len (n : Nat) : (procs n).length = n := by simp [procs]
set_option maxHeartbeats 4000000 in
theorem c_step (F : Fc) (fb : Nat) (s : St) (top : Int) (hF : F.ok) (ht : 0 ≤ top ∧ top ≤ 1000) : Ctr Try.prog 44 #[.pointer (some ⟨fb, 0, none⟩), .agg s.row.toArray, .int .i64 top] (fun m => F.M m) (F.as fb)
    (fun _ : Fc => .int .i64 (stepE F.er s top).2) (fun G m => G.M m ∧ G.ok ∧ G.er = (stepE F.er s top).1) (fun G => G.as fb) := by
  refine Ctr.mk fun w G m C hM => x_step _ _ _ _ _ _ _ w _ ?_
  have h1 := hF.n1
  have h5 := hF.n5
  have hc : World.cell? w ((⟨fb, 0, none⟩ : Addr).add 0) = some (.int .i64 (F.n : Int)) := by rw [Addr.add_mid]; exact C.blkCell (j := 0) rfl
  refine ⟨F.n, hc, by omega, F.n, hc, F.n, hc, by omega, F.n, hc, by omega, F.n, hc, F.n, hc, by omega, fun w7 L8 h7 g7 => ?_⟩
  clear hc
  simp only [ix_eq h1 (show F.n ≤ 100 by omega)]
  have e9 : (IntKind.i64.wrap (s.z.tmod 9 + 9)).tmod 9 = (ix 9 s.z : Nat) := ix_eq (n := 9) (by omega) (by omega) s.z
  have hz9 : ix 9 s.z < 9 := ix_lt (by omega) _
  simp only [e9]
  have hx0 := ix_lt h1 s.x
  have hy0 := ix_lt h1 s.y
  have hst : stepE F.er s top = stepE F.er s top := rfl
  conv at hst => rhs; unfold stepE
  have hn : F.er.n = F.n := rfl
  rw [hn] at hst
  rw [hst]
  generalize ix F.n s.x = x at *
  generalize ix F.n s.y = y at *
  generalize ix 9 s.z = z9 at *
  clear hst e9
  have hx : x < 5 := by omega
  have hy : y < 5 := by omega
  obtain ⟨z, hz⟩ := hF.a x hx
  simp only [Addr.add_mid, Nat.mul_one, Nat.zero_add, Int.toNat_natCast, addr_block]
  refine ⟨fun p k c i w' L' => ∃ (j : Nat), i = j ∧ j = k ∧ j ≤ F.n ∧ Ctx G m w w' L' m (slA (.slice p j c) j ((procs j).flatMap Pr.row) 67 2 :: F.as fb), fun _ _ _ i _ => (F.n - i).toNat, ⟨0, rfl, rfl, by omega, (C.hidL h7 g7).slNil⟩, ?_⟩
  clear C
  rintro p k c i w15 L16 _ ⟨j, rfl, rfl, hj, D⟩
  refine ⟨F.n, D.swap.blkCell (j := 0) rfl, D.swap.blkAt.2, ?_⟩
  by_cases hjl : j < F.n
  · rw [if_pos (by simpa using hjl)]
    refine D.gives (c_proc j (by omega)) fun w162 k162 D => ⟨_, _, rfl, k162, ?_⟩
    have D1 := (D.alloc (prc j).row 67).swap
    have hcl : Cells _ ⟨w162.heap.size, 0, none⟩ (prc j).row := (D.alloc (prc j).row 67).blkCells (o := 0) fun k v e => by simpa using e
    obtain ⟨q2, c2, w25, hr, hkk, D2⟩ := D1.app2 (P := Try.prog) (bytes := 4) (t := 43) (t2 := 43) 43 (by kernel_rfl) (.some ⟨w162.heap.size, 0, none⟩ 1 1 (prc j).row rfl hcl) (by unfold maxLen; omega) (by omega) (pr_one _)
    have e : IntKind.wrap .i64 ((j : Int) + 1) = ((j + 1 : Nat) : Int) := by rw [w_i64 (by omega) (by omega)]; omega
    refine ⟨q2, j + 1, c2, w25, hr, hkk, trivial, ?_⟩
    rw [e]
    refine ⟨⟨j + 1, rfl, rfl, hjl, ?_⟩, Nat.le_of_eq (by show ((F.n : Int) - ((j + 1 : Nat) : Int)).toNat + 1 = ((F.n : Int) - (j : Int)).toNat; omega)⟩
    have e2 : (procs (j + 1)).flatMap Pr.row = (procs j).flatMap Pr.row ++ (prc j).row := by unfold procs; rw [List.range_succ, List.map_append, List.flatMap_append]; simp
    rw [e2]
    exact D2.swap.drop
  rw [if_neg (by simpa using hjl)]
  have hj2 : j = F.n := by omega
  subst hj2
  obtain ⟨m2, hm2, hs, C⟩ := D.slShare
  clear D
  replace hM := hM.mono hm2
  have hnz : F.er.a x = z.2.er := by show aE (F.a x) = _; rw [hz]; rfl
  have hbal : balE (F.er.p y) = balO (F.p y) := (balO_er _).symm
  by_cases k0 : (s.k == 0) = true
  · simp only [k0, if_true]
    refine ⟨[], facts_nil _ _, fun w153 L154 h153 g153 => ?_⟩
    rw [w_i64 (n := top + 1) (by omega) (by omega), w_u32 (n := top + 1) (by omega) (by omega), w_u8 (n := (x : Int)) (by omega) (by omega)]
    refine (C.hidL h153 g153).gives (c_Ballot (top + 1) x (by omega) (by omega)) fun w156 k156 C => ⟨_, rfl, k156, ?_⟩
    have hs' : VwM m2 ⟨0, 1, (p, c), procs F.n⟩ := by show MSrc m2 2 (slV (p, c) (procs F.n).length) (procs F.n).length _; rw [procs_len]; exact hs
    have hst := c_Start ⟨0, 1, (p, c), procs F.n⟩ (bal (top + 1) x) (fun q hq => by obtain ⟨i, _, rfl⟩ := List.mem_map.1 hq; show (0 : Int) ≤ (i : Nat); omega) (ok_procs _ h1 h5 _) (by unfold bal; omega)
    simp only [Vw.row, procs_len] at hst
    refine hst.call (As := F.as fb) C hs' fun i m3 w159 hk hm3 hi C => ⟨_, rfl, hk, by omega, by omega, trivial, ?_⟩
    obtain ⟨b, mp, q⟩ := i
    simp only at hi C ⊢
    have C1 := C.perm (List.perm_append_comm (l₁ := ppA b mp q) (l₂ := F.as fb))
    have C1 : Ctx G m w w159 L154 m3 (blk fb F.cells 94 :: ((F.aR ++ F.pR) ++ ppA b mp q)) := C1
    have C2 := storeP C1 hx (some (b, mp, q))
    have C3 := storeW C2 hx false
    have C4 := putP (z := some (b, mp, q)) (i := x) (F := F) C3 hx
    refine ⟨C1.there (6 + x) 1 (by rw [F.len]; omega), C1.blkAt.2, by omega, by omega, trivial, C2.there (21 + x) 1 (by rw [Fc.len]; omega), C2.blkAt.2, ?_⟩
    have hM2 : ((F.setP x (some (b, mp, q))).setW x false).M m3 := ⟨(hM.mono hm3).a, (M_setP (i := x) (z := some (b, mp, q)) (hM.mono hm3) hi.1).p, (hM.mono hm3).v⟩
    refine ⟨(F.setP x (some (b, mp, q))).setW x false, m3, L154, trivial, ⟨hM2, ok_setW (ok_setP hF), ?_⟩, C4⟩
    rw [er_setW, er_setP]
    show Fe.mk _ _ (upd F.er.p x (some q.er)) _ _ = _
    rw [hi.2]
    rfl
  by_cases k1 : (s.k == 1) = true
  · simp only [k0, k1, if_true, if_false]
    refine ⟨by omega, by omega, _, C.blkCell (Fc.cellP hy), C.blkAt.2, ?_⟩
    refine call0 (f_Ballot hy) C trivial fun _ m3 w120 hk hm3 _ C => ⟨_, rfl, hk, by omega, by omega, some ⟨z.1, 0, none⟩, by have := C.blkCell (Fc.cellA hx); rw [hz] at this; exact this, C.blkAt.2, ?_⟩
    rw [hbal, hnz]
    refine call0 (fA hx hz (c_Prepare z.1 z.2 (balO (F.p y)))) C trivial fun _ m4 w124 hk hm4 _ C => ⟨_, rfl, hk, ?_⟩
    replace hM := hM.mono (hm3.le_trans hm4)
    rw [prepF_B]
    by_cases hb : prepB z.2.er (balO (F.p y)) = true
    rotate_left
    · rw [if_neg hb, if_neg hb]
      have e2 : (prepF z.2 (balO (F.p y))).2 = z.2 := prepF_f (by rw [prepF_B]; simpa using hb)
      have eF : F.setA x (some (z.1, (prepF z.2 (balO (F.p y))).2)) = F := by rw [e2]; show { F with a := upd F.a x (some z) } = F; rw [← hz, upd_self]
      rw [eF] at C
      exact Ctr.ret (m' := m4) F rfl ⟨hM, hF, rfl⟩ C
    rw [if_pos hb, if_pos hb]
    have e2 : (prepF z.2 (balO (F.p y))).2 = { z.2 with pr := balO (F.p y) } := prepF_t (by rw [prepF_B]; exact hb)
    rw [e2] at C
    have hv := hM.a x z hz
    have hM1 : (F.setA x (some (z.1, { z.2 with pr := balO (F.p y) }))).M m4 := M_setA hM hv
    have hF1 : (F.setA x (some (z.1, { z.2 with pr := balO (F.p y) }))).ok := ok_setA hF
    have hE1 := er_setA F x (some (z.1, { z.2 with pr := balO (F.p y) }))
    have hz1 : (F.setA x (some (z.1, { z.2 with pr := balO (F.p y) }))).a x = some (z.1, { z.2 with pr := balO (F.p y) }) := upd_eq _ _ _
    have hp1 : (F.setA x (some (z.1, { z.2 with pr := balO (F.p y) }))).p = F.p := rfl
    have hn1 : (F.setA x (some (z.1, { z.2 with pr := balO (F.p y) }))).er.p = F.er.p := rfl
    generalize F.setA x (some (z.1, { z.2 with pr := balO (F.p y) })) = F1 at *
    refine ⟨by omega, by omega, some ⟨z.1, 0, none⟩, by have := C.blkCell (Fc.cellA hx); rw [hz1] at this; exact this, C.blkAt.2, ?_⟩
    refine call0 (fA0 hx hz1 (c_Held z.1 _)) C hv fun u m5 w128 hk hm5 hu C => ⟨_, _, _, _, _, _, _, _, rfl, hk, _, fcP C hy, by omega, by omega, _, by simp; rfl, fun w139 L140 h139 g139 => ?_⟩
    refine (C.hidL h139 g139).gives (c_proc x (by omega)) fun w142 k142 C => ⟨_, _, rfl, k142, fcP C hy, ?_⟩
    refine (c_tail x (by omega)).call (As := F1.as fb) C trivial fun f m6 w146 hk hm6 hf C => ⟨_, _, _, rfl, hk, fcP C hy, ?_⟩
    have hfl : f.2.length = x := by have := congrArg List.length hf.2; simpa [tailE] using this
    have hm46 := hm5.le_trans hm6
    refine call0 (f_Promise (F := F1) hy (prc x) f.1 f.2 z.2.ac u (decide (z.2.ac ≠ 0))) C ⟨(hM1.p y).mono hm46, hf.1, by omega, hu.1.mono hm6⟩ fun q m7 w151 hk hm7 hq C => ⟨rfl, hk, ?_⟩
    refine Ctr.ret (m' := m7) (F1.setP y q) rfl ⟨M_setP (hM1.mono (hm46.le_trans hm7)) hq.m, ok_setP hF1, ?_⟩ C
    rw [er_setP, hq.e, hE1, hu.2, hf.2, hp1]
    have hte : ∀ (c : Prop) [Decidable c], (if c then (([], []) : VE) else z.2.v.er) = if c then ([], []) else z.2.er.v := fun _ _ => rfl
    rfl
  by_cases k2 : (s.k == 2) = true
  · simp only [k0, k1, k2, if_true, if_false]
    have hw9 : IntKind.wrap .i64 ((z9 : Int) + 1) = ((z9 + 1 : Nat) : Int) := by rw [w_i64 (by omega) (by omega)]; omega
    simp only [hw9]
    have hrd : rdO (F.er.p x) = rdO (poE (F.p x)) := rfl
    rw [hrd]
    refine ⟨_, fcP C hx, by omega, by omega, _, by simp; rfl, ?_⟩
    refine ⟨fun w50 L51 h50 g50 => ?_, fun w99 L100 h99 g99 => ?_⟩
    · refine (C.hidL h50 g50).gives (c_proc (z9 + 1 : Nat) (by omega)) fun w53 k53 C => ⟨_, _, rfl, k53, fcP C hx, ⟨?_, ?_, ?_⟩, fun w84 L85 h84 g84 => ?_⟩
      · obtain ⟨mA, hmA, hsA, C⟩ := newPrs C [prc (z9 + 1)] #[.int .u8 ((z9 + 1 : Nat) : Int), .int .u16 1] rfl
        exact fcP C hx
      · obtain ⟨mA, hmA, hsA, C⟩ := newPrs C [prc (z9 + 1)] #[.int .u8 ((z9 + 1 : Nat) : Int), .int .u16 1] rfl
        have hP := f_Propose (F := F) (fb := fb) hx (some ⟨w53.heap.size, 0, none⟩, 1) [prc (z9 + 1)] (by simp)
        refine call0 hP C ⟨((hM.p x).mono hmA), hsA⟩ fun u m3 w57 hk hm3 hu C => ⟨_, _, _, _, _, _, _, rfl, hk, ?_⟩
        have hcs := Fc.cells_setP (F := F) (i := x) (y := u.2) rfl (ptP_eq hu.1.b)
        have C' := C
        rw [Fc.as, hcs] at C'
        refine ⟨fcP C' hx, ?_⟩
        have hM2 := M_setP (i := x) (hM.mono (hmA.le_trans hm3)) hu.1.m
        by_cases hr : rdO (poE (F.p x)) = true
        · rw [if_pos hr, if_pos hr]
          refine ⟨[], facts_nil _ _, by omega, by omega, fun w67 L68 h67 g67 => ?_⟩
          replace C := C.hidL h67 g67
          have C2 := storeV C hx u.1
          have C3 := storeW C2 hx true
          refine ⟨trivial, C.there (11 + x * 2) 2 (by rw [Fc.len]; omega), C.blkAt.2, by omega, by omega, trivial, C2.there (21 + x) 1 (by rw [Fc.len]; omega), C2.blkAt.2, ?_⟩
          refine Ctr.ret (m' := m3) (((F.setP x u.2).setV x u.1).setW x true) rfl ⟨⟨hM2.a, hM2.p, (M_setV hM2 hu.2.1).v⟩, ok_setW (ok_setV (ok_setP hF)), ?_⟩ C3
          obtain ⟨e, he, hue⟩ := hu.2.2 hr
          have hce : chO ((F.er.p x).map fun q => propE q [prc (z9 + 1)]) = u.1.er := by
            have := hu.1.e
            rw [he] at this
            show chO ((poE (F.p x)).map fun q => propE q [prc (z9 + 1)]) = _
            rw [← this, hue]; rfl
          rw [er_setW, er_setV, er_setP, hu.1.e, hce]
          rfl
        · rw [if_neg hr, if_neg hr]
          have ee : (F.setP x u.2).er = F.er := by
            rw [er_setP, hu.1.e]
            have : (poE (F.p x)).map (fun e => propE e [prc (z9 + 1)]) = F.er.p x := by
              show _ = poE (F.p x)
              cases hpx : poE (F.p x) with
              | none => rfl
              | some e =>
                rw [hpx] at hr
                have hr' : ¬ readyE e = true := hr
                show some (propE e _) = some e
                rw [propE, if_neg hr']
            rw [this, upd_self]
          exact fun w65 h65 => Ctr.ret (m' := m3) (L := []) (F.setP x u.2) rfl ⟨hM2, ok_setP hF, ee⟩ (C.hid0 h65)
      · intro w69 L70 h69 g69
        obtain ⟨mA, hmA, hsA, C⟩ := newPrs C [prc (z9 + 1)] #[.int .u8 ((z9 + 1 : Nat) : Int), .int .u16 1] rfl
        replace C := C.hidL h69 g69
        have hP := f_Propose (F := F) (fb := fb) hx (some ⟨w53.heap.size, 0, none⟩, 1) [prc (z9 + 1)] (by simp)
        refine call0 hP C ⟨((hM.p x).mono hmA), hsA⟩ fun u m3 w57 hk hm3 hu C => ⟨_, _, _, _, _, _, _, rfl, hk, ?_⟩
        have hcs := Fc.cells_setP (F := F) (i := x) (y := u.2) rfl (ptP_eq hu.1.b)
        have C' := C
        rw [Fc.as, hcs] at C'
        refine ⟨fcP C' hx, ?_⟩
        have hM2 := M_setP (i := x) (hM.mono (hmA.le_trans hm3)) hu.1.m
        by_cases hr : rdO (poE (F.p x)) = true
        · rw [if_pos hr, if_pos hr]
          refine ⟨[], facts_nil _ _, by omega, by omega, fun w67 L68 h67 g67 => ?_⟩
          replace C := C.hidL h67 g67
          have C2 := storeV C hx u.1
          have C3 := storeW C2 hx true
          refine ⟨trivial, C.there (11 + x * 2) 2 (by rw [Fc.len]; omega), C.blkAt.2, by omega, by omega, trivial, C2.there (21 + x) 1 (by rw [Fc.len]; omega), C2.blkAt.2, ?_⟩
          refine Ctr.ret (m' := m3) (((F.setP x u.2).setV x u.1).setW x true) rfl ⟨⟨hM2.a, hM2.p, (M_setV hM2 hu.2.1).v⟩, ok_setW (ok_setV (ok_setP hF)), ?_⟩ C3
          obtain ⟨e, he, hue⟩ := hu.2.2 hr
          have hce : chO ((F.er.p x).map fun q => propE q [prc (z9 + 1)]) = u.1.er := by
            have := hu.1.e
            rw [he] at this
            show chO ((poE (F.p x)).map fun q => propE q [prc (z9 + 1)]) = _
            rw [← this, hue]; rfl
          rw [er_setW, er_setV, er_setP, hu.1.e, hce]
          rfl
        · rw [if_neg hr, if_neg hr]
          have ee : (F.setP x u.2).er = F.er := by
            rw [er_setP, hu.1.e]
            have : (poE (F.p x)).map (fun e => propE e [prc (z9 + 1)]) = F.er.p x := by
              show _ = poE (F.p x)
              cases hpx : poE (F.p x) with
              | none => rfl
              | some e =>
                rw [hpx] at hr
                have hr' : ¬ readyE e = true := hr
                show some (propE e _) = some e
                rw [propE, if_neg hr']
            rw [this, upd_self]
          exact fun w65 h65 => Ctr.ret (m' := m3) (L := []) (F.setP x u.2) rfl ⟨hM2, ok_setP hF, ee⟩ (C.hid0 h65)
      · replace C := C.hidL h84 g84
        obtain ⟨mA, hmA, hsA, C⟩ := newPrs C [prc (z9 + 1)] #[.int .u8 ((z9 + 1 : Nat) : Int), .int .u16 1] rfl
        refine ⟨fcP C hx, ?_⟩
        have hP := f_Propose (F := F) (fb := fb) hx (some ⟨w84.heap.size, 0, none⟩, 1) [prc (z9 + 1)] (by simp)
        refine call0 hP C ⟨((hM.p x).mono hmA), hsA⟩ fun u m3 w57 hk hm3 hu C => ⟨_, _, _, _, _, _, _, rfl, hk, ?_⟩
        have hcs := Fc.cells_setP (F := F) (i := x) (y := u.2) rfl (ptP_eq hu.1.b)
        have C' := C
        rw [Fc.as, hcs] at C'
        refine ⟨fcP C' hx, ?_⟩
        have hM2 := M_setP (i := x) (hM.mono (hmA.le_trans hm3)) hu.1.m
        by_cases hr : rdO (poE (F.p x)) = true
        · rw [if_pos hr, if_pos hr]
          refine ⟨[], facts_nil _ _, by omega, by omega, fun w67 L68 h67 g67 => ?_⟩
          replace C := C.hidL h67 g67
          have C2 := storeV C hx u.1
          have C3 := storeW C2 hx true
          refine ⟨trivial, C.there (11 + x * 2) 2 (by rw [Fc.len]; omega), C.blkAt.2, by omega, by omega, trivial, C2.there (21 + x) 1 (by rw [Fc.len]; omega), C2.blkAt.2, ?_⟩
          refine Ctr.ret (m' := m3) (((F.setP x u.2).setV x u.1).setW x true) rfl ⟨⟨hM2.a, hM2.p, (M_setV hM2 hu.2.1).v⟩, ok_setW (ok_setV (ok_setP hF)), ?_⟩ C3
          obtain ⟨e, he, hue⟩ := hu.2.2 hr
          have hce : chO ((F.er.p x).map fun q => propE q [prc (z9 + 1)]) = u.1.er := by
            have := hu.1.e
            rw [he] at this
            show chO ((poE (F.p x)).map fun q => propE q [prc (z9 + 1)]) = _
            rw [← this, hue]; rfl
          rw [er_setW, er_setV, er_setP, hu.1.e, hce]
          rfl
        · rw [if_neg hr, if_neg hr]
          have ee : (F.setP x u.2).er = F.er := by
            rw [er_setP, hu.1.e]
            have : (poE (F.p x)).map (fun e => propE e [prc (z9 + 1)]) = F.er.p x := by
              show _ = poE (F.p x)
              cases hpx : poE (F.p x) with
              | none => rfl
              | some e =>
                rw [hpx] at hr
                have hr' : ¬ readyE e = true := hr
                show some (propE e _) = some e
                rw [propE, if_neg hr']
            rw [this, upd_self]
          exact fun w65 h65 => Ctr.ret (m' := m3) (L := []) (F.setP x u.2) rfl ⟨hM2, ok_setP hF, ee⟩ (C.hid0 h65)
    · refine (C.hidL h99 g99).gives (c_proc (z9 + 1 : Nat) (by omega)) fun w53 k53 C => ⟨_, _, rfl, k53, fcP C hx, ?_⟩
      · obtain ⟨mA, hmA, hsA, C⟩ := newPrs C [prc (z9 + 1)] #[.int .u8 ((z9 + 1 : Nat) : Int), .int .u16 1] rfl
        refine ⟨fcP C hx, ?_⟩
        have hP := f_Propose (F := F) (fb := fb) hx (some ⟨w53.heap.size, 0, none⟩, 1) [prc (z9 + 1)] (by simp)
        refine call0 hP C ⟨((hM.p x).mono hmA), hsA⟩ fun u m3 w57 hk hm3 hu C => ⟨_, _, _, _, _, _, _, rfl, hk, ?_⟩
        have hcs := Fc.cells_setP (F := F) (i := x) (y := u.2) rfl (ptP_eq hu.1.b)
        have C' := C
        rw [Fc.as, hcs] at C'
        refine ⟨fcP C' hx, ?_⟩
        have hM2 := M_setP (i := x) (hM.mono (hmA.le_trans hm3)) hu.1.m
        by_cases hr : rdO (poE (F.p x)) = true
        · rw [if_pos hr, if_pos hr]
          refine ⟨[], facts_nil _ _, by omega, by omega, fun w67 L68 h67 g67 => ?_⟩
          replace C := C.hidL h67 g67
          have C2 := storeV C hx u.1
          have C3 := storeW C2 hx true
          refine ⟨trivial, C.there (11 + x * 2) 2 (by rw [Fc.len]; omega), C.blkAt.2, by omega, by omega, trivial, C2.there (21 + x) 1 (by rw [Fc.len]; omega), C2.blkAt.2, ?_⟩
          refine Ctr.ret (m' := m3) (((F.setP x u.2).setV x u.1).setW x true) rfl ⟨⟨hM2.a, hM2.p, (M_setV hM2 hu.2.1).v⟩, ok_setW (ok_setV (ok_setP hF)), ?_⟩ C3
          obtain ⟨e, he, hue⟩ := hu.2.2 hr
          have hce : chO ((F.er.p x).map fun q => propE q [prc (z9 + 1)]) = u.1.er := by
            have := hu.1.e
            rw [he] at this
            show chO ((poE (F.p x)).map fun q => propE q [prc (z9 + 1)]) = _
            rw [← this, hue]; rfl
          rw [er_setW, er_setV, er_setP, hu.1.e, hce]
          rfl
        · rw [if_neg hr, if_neg hr]
          have ee : (F.setP x u.2).er = F.er := by
            rw [er_setP, hu.1.e]
            have : (poE (F.p x)).map (fun e => propE e [prc (z9 + 1)]) = F.er.p x := by
              show _ = poE (F.p x)
              cases hpx : poE (F.p x) with
              | none => rfl
              | some e =>
                rw [hpx] at hr
                have hr' : ¬ readyE e = true := hr
                show some (propE e _) = some e
                rw [propE, if_neg hr']
            rw [this, upd_self]
          exact fun w65 h65 => Ctr.ret (m' := m3) (L := []) (F.setP x u.2) rfl ⟨hM2, ok_setP hF, ee⟩ (C.hid0 h65)
  by_cases k3 : (s.k == 3) = true
  · simp only [k0, k1, k2, k3, if_true, if_false]
    refine ⟨_, fc4 C hx hy, by omega, by omega, F.w y, by simp, ?_⟩
    have hwy : F.er.w y = F.w y := rfl
    rw [hbal, hnz, hwy]
    by_cases hw : F.w y = true
    rotate_left
    · rw [if_neg (by simpa using hw), if_neg (show ¬ (F.w y && prepB z.2.er (balO (F.p y))) = true by simp [hw])]
      exact fun w20 h20 => Ctr.ret (m' := m2) (L := []) F rfl ⟨hM, hF, rfl⟩ (C.hid0 h20)
    rw [if_pos (by simpa using hw)]
    refine ⟨by omega, by omega, some ⟨z.1, 0, none⟩, by simp [hz], by omega, by omega, _, by simp; rfl, by omega, by omega, (F.v y).mq.1, (F.v y).ms.length, (F.v y).mq.2, (F.v y).tq.1, (F.v y).ts.length, (F.v y).tq.2, by simp, fun w29 L30 h29 g29 => ?_⟩
    refine call0 (f_Ballot hy) (C.hidL h29 g29) trivial fun _ m3 w32 hk hm3 _ C => ⟨_, rfl, hk, fc4 C hx hy, ?_⟩
    refine call0 (fA hx hz (c_Accept z.1 z.2 (balO (F.p y)) (F.v y))) C ((hM.v y).mono hm3) fun u m4 w35 hk hm4 hu C => ⟨_, rfl, hk, ?_⟩
    replace hM := hM.mono (hm3.le_trans hm4)
    have hcs := Fc.cells_setA (y := some (z.1, accF z.2 (balO (F.p y)) u)) hz rfl
    refine ⟨by have C' := C; rw [Fc.as, hcs] at C'; exact fc4 C' hx hy, ?_⟩
    rw [prepF_B]
    by_cases hb : prepB z.2.er (balO (F.p y)) = true
    rotate_left
    · rw [if_neg (by simpa using hb), if_neg (show ¬ (F.w y && prepB z.2.er (balO (F.p y))) = true by simp [hb])]
      have e2 : accF z.2 (balO (F.p y)) u = z.2 := by unfold accF; rw [if_neg (by rw [prepF_B]; exact hb)]
      have eF : F.setA x (some (z.1, accF z.2 (balO (F.p y)) u)) = F := by rw [e2]; show { F with a := upd F.a x (some z) } = F; rw [← hz, upd_self]
      rw [eF] at C
      exact Ctr.ret (m' := m4) F rfl ⟨hM, hF, rfl⟩ C
    rw [if_pos (by simpa using hb), if_pos (show (F.w y && prepB z.2.er (balO (F.p y))) = true by simp [hb, hw])]
    have e2 : accF z.2 (balO (F.p y)) u = ⟨balO (F.p y), balO (F.p y), u⟩ := by unfold accF; rw [if_pos (by rw [prepF_B]; exact hb)]
    rw [e2] at C hcs
    have hM1 : (F.setA x (some (z.1, ⟨balO (F.p y), balO (F.p y), u⟩))).M m4 := M_setA hM hu.1
    have hF1 : (F.setA x (some (z.1, ⟨balO (F.p y), balO (F.p y), u⟩))).ok := ok_setA hF
    have hE1 := er_setA F x (some (z.1, ⟨balO (F.p y), balO (F.p y), u⟩))
    have hp1 : (F.setA x (some (z.1, ⟨balO (F.p y), balO (F.p y), u⟩))).p = F.p := rfl
    generalize F.setA x (some (z.1, ⟨balO (F.p y), balO (F.p y), u⟩)) = F1 at *
    have hpy : F1.p y = F.p y := by rw [hp1]
    refine ⟨_, fcP C hy, by omega, by omega, _, by simp; rfl, fun w39 L40 h39 g39 => ?_⟩
    refine (C.hidL h39 g39).gives (c_proc x (by omega)) fun w42 k42 C => ⟨_, _, rfl, k42, fcP C hy, ?_⟩
    refine call0 (f_Accepted (F := F1) hy (prc x)) C (hM1.p y) fun q m5 w46 hk hm5 hq C => ⟨_, rfl, hk, ?_⟩
    refine Ctr.ret (m' := m5) (F1.setP y q.2) rfl ⟨M_setP (hM1.mono hm5) hq.m, ok_setP hF1, ?_⟩ C
    rw [er_setP, hq.e, hE1, hp1]
    show Fe.mk _ (upd F.er.a x ⟨balO (F.p y), balO (F.p y), u.er⟩) _ _ _ = _
    rw [hu.2]
    rfl
  simp only [k0, k1, k2, k3, if_false]
  first | exact ⟨F, m2, _, rfl, ⟨hM, hF, rfl⟩, C⟩ | exact ⟨F, m2, _, trivial, ⟨hM, hF, rfl⟩, C⟩
end Go.Proofs
