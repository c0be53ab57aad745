import Derived.Test.YtkkhkkfnbohnaaaU11n
import Derived.Test.YtkkhkkfnbohnaaaV11g
set_option linter.unusedVariables false
set_option linter.unusedSimpArgs false
set_option maxRecDepth 10000
namespace Go.Proofs
open Go X RowKit
/-! ### lists of functions -/
def upd {α : Type} (f : Nat → α) (i : Nat) (x : α) : Nat → α := fun j => if j = i then x else f j
theorem upd_self {α : Type} (f : Nat → α) (i : Nat) : upd f i (f i) = f := by funext j; unfold upd; split <;> simp_all
theorem upd_eq {α : Type} (f : Nat → α) (i : Nat) (x : α) : upd f i x i = x := by simp [upd]
theorem upd_ne {α : Type} (f : Nat → α) {i j : Nat} (x : α) (h : j ≠ i) : upd f i x j = f j := by simp [upd, h]
theorem flat_pick {β : Type} (l : List Nat) (i : Nat) (hi : i ∈ l) (f : Nat → List β) : (l.flatMap f).Perm (f i ++ (l.erase i).flatMap f) := by
  have := (List.perm_cons_erase hi).flatMap_right f
  simpa using this
theorem flat_off {β : Type} {l : List Nat} {i : Nat} (hn : l.Nodup) (f g : Nat → List β) (h : ∀ j, j ≠ i → f j = g j) : (l.erase i).flatMap f = (l.erase i).flatMap g := by
  rw [List.flatMap_def, List.flatMap_def]
  congr 1
  exact List.map_congr_left fun j hj => h j ((hn.mem_erase_iff).1 hj).1
/-! ### the field -/
abbrev Ac1 := Nat × Acp
abbrev Pp1 := Nat × Nat × Pp
abbrev ptA (z : Option Ac1) : Value := .pointer (z.map fun z => ⟨z.1, 0, none⟩)
abbrev ptP (z : Option Pp1) : Value := .pointer (z.map fun z => ⟨z.1, 0, none⟩)
structure Fc where (n : Nat) (a : Nat → Option Ac1) (p : Nat → Option Pp1) (v : Nat → Vl) (w : Nat → Bool)
@[reducible] def Fc.cells (F : Fc) : List Value := [.int .i64 F.n, ptA (F.a 0), ptA (F.a 1), ptA (F.a 2), ptA (F.a 3), ptA (F.a 4), ptP (F.p 0), ptP (F.p 1), ptP (F.p 2), ptP (F.p 3), ptP (F.p 4),
  slV (F.v 0).mq (F.v 0).ms.length, slV (F.v 0).tq (F.v 0).ts.length, slV (F.v 1).mq (F.v 1).ms.length, slV (F.v 1).tq (F.v 1).ts.length, slV (F.v 2).mq (F.v 2).ms.length, slV (F.v 2).tq (F.v 2).ts.length, slV (F.v 3).mq (F.v 3).ms.length, slV (F.v 3).tq (F.v 3).ts.length, slV (F.v 4).mq (F.v 4).ms.length, slV (F.v 4).tq (F.v 4).ts.length,
  .bool (F.w 0), .bool (F.w 1), .bool (F.w 2), .bool (F.w 3), .bool (F.w 4)]
def aL : Option Ac1 → List Asn
  | none => []
  | some z => [aA z.1 z.2]
def pL : Option Pp1 → List Asn
  | none => []
  | some z => ppA z.1 z.2.1 z.2.2
def Fc.aR (F : Fc) : List Asn := (List.range 5).flatMap fun i => aL (F.a i)
def Fc.pR (F : Fc) : List Asn := (List.range 5).flatMap fun i => pL (F.p i)
def Fc.aO (F : Fc) (i : Nat) : List Asn := ((List.range 5).erase i).flatMap fun i => aL (F.a i)
def Fc.pO (F : Fc) (i : Nat) : List Asn := ((List.range 5).erase i).flatMap fun i => pL (F.p i)
abbrev Fc.as (F : Fc) (fb : Nat) : List Asn := blk fb F.cells 94 :: (F.aR ++ F.pR)
abbrev Fc.setA (F : Fc) (i : Nat) (z : Option Ac1) : Fc := { F with a := upd F.a i z }
abbrev Fc.setP (F : Fc) (i : Nat) (z : Option Pp1) : Fc := { F with p := upd F.p i z }
abbrev Fc.setV (F : Fc) (i : Nat) (z : Vl) : Fc := { F with v := upd F.v i z }
abbrev Fc.setW (F : Fc) (i : Nat) (z : Bool) : Fc := { F with w := upd F.w i z }
theorem Fc.cellA {F : Fc} {i : Nat} (hi : i < 5) : F.cells[1 + i]? = some (ptA (F.a i)) := by match i, hi with | 0, _ => rfl | 1, _ => rfl | 2, _ => rfl | 3, _ => rfl | 4, _ => rfl
theorem Fc.cellP {F : Fc} {i : Nat} (hi : i < 5) : F.cells[6 + i]? = some (ptP (F.p i)) := by match i, hi with | 0, _ => rfl | 1, _ => rfl | 2, _ => rfl | 3, _ => rfl | 4, _ => rfl
theorem Fc.cellV {F : Fc} {i : Nat} (hi : i < 5) : ∀ k v, (F.v i).row[k]? = some v → F.cells[11 + i * 2 + k]? = some v := by
  match i, hi with
  | 0, _ => exact fun k v e => by match k, e with | 0, e => exact e | 1, e => exact e
  | 1, _ => exact fun k v e => by match k, e with | 0, e => exact e | 1, e => exact e
  | 2, _ => exact fun k v e => by match k, e with | 0, e => exact e | 1, e => exact e
  | 3, _ => exact fun k v e => by match k, e with | 0, e => exact e | 1, e => exact e
  | 4, _ => exact fun k v e => by match k, e with | 0, e => exact e | 1, e => exact e
theorem Fc.cellW {F : Fc} {i : Nat} (hi : i < 5) : F.cells[21 + i]? = some (.bool (F.w i)) := by match i, hi with | 0, _ => rfl | 1, _ => rfl | 2, _ => rfl | 3, _ => rfl | 4, _ => rfl
theorem Fc.len (F : Fc) : F.cells.length = 26 := rfl
theorem Fc.spA (F : Fc) {i : Nat} (hi : i < 5) (z : Option Ac1) : splice F.cells (1 + i) [ptA z] = (F.setA i z).cells := by match i, hi with | 0, _ => rfl | 1, _ => rfl | 2, _ => rfl | 3, _ => rfl | 4, _ => rfl
theorem Fc.spP (F : Fc) {i : Nat} (hi : i < 5) (z : Option Pp1) : splice F.cells (6 + i) [ptP z] = (F.setP i z).cells := by match i, hi with | 0, _ => rfl | 1, _ => rfl | 2, _ => rfl | 3, _ => rfl | 4, _ => rfl
theorem Fc.spV (F : Fc) {i : Nat} (hi : i < 5) (z : Vl) : splice F.cells (11 + i * 2) z.row = (F.setV i z).cells := by match i, hi with | 0, _ => rfl | 1, _ => rfl | 2, _ => rfl | 3, _ => rfl | 4, _ => rfl
theorem Fc.spW (F : Fc) {i : Nat} (hi : i < 5) (z : Bool) : splice F.cells (21 + i) [.bool z] = (F.setW i z).cells := by match i, hi with | 0, _ => rfl | 1, _ => rfl | 2, _ => rfl | 3, _ => rfl | 4, _ => rfl
theorem Fc.cells_setA {F : Fc} {i : Nat} {z y : Option Ac1} (h : F.a i = z) (he : ptA y = ptA z) : (F.setA i y).cells = F.cells := by
  have : ∀ j, ptA (upd F.a i y j) = ptA (F.a j) := fun j => by unfold upd; split <;> simp_all
  simp only [Fc.cells, this]
theorem Fc.cells_setP {F : Fc} {i : Nat} {z y : Option Pp1} (h : F.p i = z) (he : ptP y = ptP z) : (F.setP i y).cells = F.cells := by
  have : ∀ j, ptP (upd F.p i y j) = ptP (F.p j) := fun j => by unfold upd; split <;> simp_all
  simp only [Fc.cells, this]
theorem Fc.aO_set (F : Fc) (i : Nat) (z : Option Ac1) : (F.setA i z).aO i = F.aO i := flat_off List.nodup_range _ _ fun j hj => by show aL (upd F.a i z j) = _; rw [upd_ne _ _ hj]
theorem Fc.pO_set (F : Fc) (i : Nat) (z : Option Pp1) : (F.setP i z).pO i = F.pO i := flat_off List.nodup_range _ _ fun j hj => by show pL (upd F.p i z j) = _; rw [upd_ne _ _ hj]
theorem Fc.aR_pick (F : Fc) {i : Nat} (hi : i < 5) : F.aR.Perm (aL (F.a i) ++ F.aO i) := flat_pick _ i (by simpa using hi) _
theorem Fc.pR_pick (F : Fc) {i : Nat} (hi : i < 5) : F.pR.Perm (pL (F.p i) ++ F.pO i) := flat_pick _ i (by simpa using hi) _
section
variable {F0 : List Nat} {m0 : Mem} {w0 w : World} {L : List Nat} {m : Mem} {As : List Asn} {F : Fc} {fb i : Nat}
theorem pickA {c : Asn} (C : Ctx F0 m0 w0 w L m (c :: (F.aR ++ F.pR))) (hi : i < 5) : Ctx F0 m0 w0 w L m (aL (F.a i) ++ (c :: (F.aO i ++ F.pR))) :=
  C.perm ((List.Perm.cons _ (((F.aR_pick hi).append_right _).trans (by rw [List.append_assoc]))).trans List.perm_middle.symm)
theorem backA {c : Asn} {z : Option Ac1} (C : Ctx F0 m0 w0 w L m (aL z ++ (c :: (F.aO i ++ F.pR)))) (hi : i < 5) : Ctx F0 m0 w0 w L m (c :: ((F.setA i z).aR ++ (F.setA i z).pR)) :=
  C.perm (List.perm_middle.trans (List.Perm.cons _ (by
    have h := (F.setA i z).aR_pick hi
    rw [F.aO_set] at h
    have e : (F.setA i z).a i = z := upd_eq _ _ _
    rw [e] at h
    rw [← List.append_assoc]
    exact h.symm.append_right _)))
theorem pickP {c : Asn} (C : Ctx F0 m0 w0 w L m (c :: (F.aR ++ F.pR))) (hi : i < 5) : Ctx F0 m0 w0 w L m (pL (F.p i) ++ (c :: (F.aR ++ F.pO i))) :=
  C.perm ((List.Perm.cons _ (((F.pR_pick hi).append_left _).trans (List.perm_append_comm_assoc _ _ _))).trans List.perm_middle.symm)
theorem backP {c : Asn} {z : Option Pp1} (C : Ctx F0 m0 w0 w L m (pL z ++ (c :: (F.aR ++ F.pO i)))) (hi : i < 5) : Ctx F0 m0 w0 w L m (c :: ((F.setP i z).aR ++ (F.setP i z).pR)) :=
  C.perm (List.perm_middle.trans (List.Perm.cons _ (by
    have h := (F.setP i z).pR_pick hi
    rw [F.pO_set] at h
    have e : (F.setP i z).p i = z := upd_eq _ _ _
    rw [e] at h
    exact (List.perm_append_comm_assoc _ _ _).trans (h.symm.append_left _))))
end
/-- a call on one acceptor -/
theorem fA {F : Fc} {fb i : Nat} {z : Ac1} {f : FuncId} {args : Array Value} {pre : Mem → Prop} {ι : Type} {r : ι → Value} {post : ι → Mem → Prop} {y : ι → Acp} (hi : i < 5) (hz : F.a i = some z)
    (c : Ctr Try.prog f args pre [aA z.1 z.2] r post (fun j => [aA z.1 (y j)])) : Ctr Try.prog f args pre (F.as fb) r post (fun j => (F.setA i (some (z.1, y j))).as fb) :=
  Ctr.mk fun w G m C hp => by
    have C1 := pickA (i := i) C hi
    rw [hz] at C1
    refine c.calls (As := blk fb F.cells 94 :: (F.aO i ++ F.pR)) C1 hp fun j m' w' hk hm hpo C2 => ⟨j, m', [], rfl, hpo, ?_⟩
    have C3 := backA (i := i) (z := some (z.1, y j)) (F := F) C2 hi
    rw [Fc.as, Fc.cells_setA (y := some (z.1, y j)) hz rfl]
    exact C3.noL
theorem fA0 {F : Fc} {fb i : Nat} {z : Ac1} {f : FuncId} {args : Array Value} {pre : Mem → Prop} {ι : Type} {r : ι → Value} {post : ι → Mem → Prop} (hi : i < 5) (hz : F.a i = some z)
    (c : Ctr Try.prog f args pre [aA z.1 z.2] r post (fun _ => [aA z.1 z.2])) : Ctr Try.prog f args pre (F.as fb) r post (fun _ => F.as fb) := by
  have := fA (fb := fb) (y := fun _ => z.2) hi hz c
  have e : F.setA i (some (z.1, z.2)) = F := by show { F with a := upd F.a i (some z) } = F; rw [← hz, upd_self]
  simpa only [e] using this
/-- .. on one proposer -/
theorem fP {F : Fc} {fb i : Nat} {z : Pp1} {f : FuncId} {args : Array Value} {pre : Mem → Prop} {ι : Type} {r : ι → Value} {post : ι → Mem → Prop} {y : ι → Pp} (hi : i < 5) (hz : F.p i = some z)
    (c : Ctr Try.prog f args pre (ppA z.1 z.2.1 z.2.2) r post (fun j => ppA z.1 z.2.1 (y j))) : Ctr Try.prog f args pre (F.as fb) r post (fun j => (F.setP i (some (z.1, z.2.1, y j))).as fb) :=
  Ctr.mk fun w G m C hp => by
    have C1 := pickP (i := i) C hi
    rw [hz] at C1
    refine c.calls (As := blk fb F.cells 94 :: (F.aR ++ F.pO i)) C1 hp fun j m' w' hk hm hpo C2 => ⟨j, m', [], rfl, hpo, ?_⟩
    have C3 := backP (i := i) (z := some (z.1, z.2.1, y j)) (F := F) C2 hi
    rw [Fc.as, Fc.cells_setP (y := some (z.1, z.2.1, y j)) hz rfl]
    exact C3.noL
theorem fP0 {F : Fc} {fb i : Nat} {z : Pp1} {f : FuncId} {args : Array Value} {pre : Mem → Prop} {ι : Type} {r : ι → Value} {post : ι → Mem → Prop} (hi : i < 5) (hz : F.p i = some z)
    (c : Ctr Try.prog f args pre (ppA z.1 z.2.1 z.2.2) r post (fun _ => ppA z.1 z.2.1 z.2.2)) : Ctr Try.prog f args pre (F.as fb) r post (fun _ => F.as fb) := by
  have := fP (fb := fb) (y := fun _ => z.2.2) hi hz c
  have e : F.setP i (some (z.1, z.2.1, z.2.2)) = F := by show { F with p := upd F.p i (some z) } = F; rw [← hz, upd_self]
  simpa only [e] using this
theorem fN {F : Fc} {fb : Nat} {f : FuncId} {args : Array Value} {pre : Mem → Prop} {ι : Type} {r : ι → Value} {post : ι → Mem → Prop}
    (c : Ctr Try.prog f args pre [] r post (fun _ => [])) : Ctr Try.prog f args pre (F.as fb) r post (fun _ => F.as fb) :=
  Ctr.mk fun w G m C hp => c.calls (As := F.as fb) C hp fun j m' w' hk hm hpo C2 => ⟨j, m', [], rfl, hpo, C2.noL⟩
/-! ### somebody who may be nobody -/
def balO : Option Pp1 → Int
  | none => 0
  | some z => z.2.2.bn
def phO : Option Pp1 → Int
  | none => 0
  | some z => z.2.2.ph
def PoM (m : Mem) : Option Pp1 → Prop
  | none => True
  | some z => PpM m z.2.2
theorem PoM.mono {m m' : Mem} {z : Option Pp1} (h : PoM m z) (hm : m.le m') : PoM m' z := by cases z with | none => trivial | some z => exact PpM.mono h hm
abbrev poE (z : Option Pp1) : Option Pe := z.map fun z => z.2.2.er
abbrev poB (z : Option Pp1) : Option Nat := z.map fun z => z.1
theorem ptP_eq {z y : Option Pp1} (h : poB y = poB z) : ptP y = ptP z := by cases z <;> cases y <;> simp_all [ptP, poB]
section
variable {F : Fc} {fb i : Nat}
theorem f_Ballot (hi : i < 5) : Ctr Try.prog 38 #[ptP (F.p i)] noMem (F.as fb) (fun _ : Unit => .int .u64 (balO (F.p i))) (fun _ _ => True) (fun _ => F.as fb) := by
  cases h : F.p i with
  | none => exact fN dp_nil.bal
  | some z => exact fP0 hi h (c_PBallot z.1 z.2.1 z.2.2)
theorem f_Phase (hi : i < 5) : Ctr Try.prog 35 #[ptP (F.p i)] noMem (F.as fb) (fun _ : Unit => .int .i64 (phO (F.p i))) (fun _ _ => True) (fun _ => F.as fb) := by
  cases h : F.p i with
  | none => exact fN dp_nil.phase
  | some z => exact fP0 hi h (c_Phase z.1 z.2.1 z.2.2)
/-- what is done to one, or to nobody -/
structure Dn (m : Mem) (z y : Option Pp1) (g : Pe → Pe) : Prop where
  m : PoM m y
  b : poB y = poB z
  e : poE y = (poE z).map g
theorem f_Promise (hi : i < 5) (p : Pr) (tq : Sl) (tl : List En) (acc : Int) (v : Vl) (has : Bool) : Ctr Try.prog 26 #[ptP (F.p i), .agg p.row.toArray, slV tq tl.length, .int .u64 acc, .agg v.row.toArray, .bool has] (fun m => PoM m (F.p i) ∧ EsM m tq tl ∧ tl.length ≤ 100000 ∧ VlM m v) (F.as fb)
    (fun _ : Option Pp1 => .tuple #[]) (fun y m => Dn m (F.p i) y fun e => promE e p (tl.map En.er) acc v.er has) (fun y => (F.setP i y).as fb) := by
  cases h : F.p i with
  | none =>
    refine Ctr.mk fun w G m C hp => (dp_nil.prom p tq tl.length acc v has).calls (As := F.as fb) C trivial fun j m' w' hk hm hpo C2 => ⟨none, m', [], rfl, ⟨trivial, rfl, rfl⟩, ?_⟩
    have e : F.setP i none = F := by show { F with p := upd F.p i none } = F; rw [← h, upd_self]
    rw [e]; exact C2.noL
  | some z =>
    refine Ctr.mk fun w G m C hp => (fP (fb := fb) hi h (c_Promise z.1 z.2.1 z.2.2 p tq tl acc v has (.inr trivial))).calls (As := []) (C.perm (by rw [List.append_nil])) hp fun y m' w' hk hm hpo C2 => ⟨some (z.1, z.2.1, y), m', [], rfl, ⟨hpo.1, rfl, ?_⟩, (C2.noL.perm (by rw [List.append_nil]))⟩
    show some y.er = some _
    rw [hpo.2]
theorem f_Accepted (hi : i < 5) (p : Pr) : Ctr Try.prog 33 #[ptP (F.p i), .agg p.row.toArray] (fun m => PoM m (F.p i)) (F.as fb)
    (fun z : Bool × Option Pp1 => .bool z.1) (fun z m => Dn m (F.p i) z.2 fun e => accE e p) (fun z => (F.setP i z.2).as fb) := by
  cases h : F.p i with
  | none =>
    refine Ctr.mk fun w G m C hp => (dp_nil.acc p).calls (As := F.as fb) C trivial fun j m' w' hk hm hpo C2 => ⟨(false, none), m', [], rfl, ⟨trivial, rfl, rfl⟩, ?_⟩
    have e : F.setP i none = F := by show { F with p := upd F.p i none } = F; rw [← h, upd_self]
    rw [e]; exact C2.noL
  | some z =>
    refine Ctr.mk fun w G m C hp => (fP (fb := fb) hi h (c_Accepted z.1 z.2.1 z.2.2 p)).calls (As := []) (C.perm (by rw [List.append_nil])) hp fun y m' w' hk hm hpo C2 => ⟨((z.2.2.acc p).ph == 2, some (z.1, z.2.1, z.2.2.acc p)), m', [], rfl, ⟨hpo, rfl, ?_⟩, (C2.noL.perm (by rw [List.append_nil]))⟩
    show some (z.2.2.acc p).er = some _
    rw [acc_er]
def rdO : Option Pe → Bool
  | none => false
  | some e => readyE e
theorem f_Propose (hi : i < 5) (wq : Sl) (wish : List Pr) (hw : wish.length ≤ 100000) : Ctr Try.prog 30 #[ptP (F.p i), slV wq wish.length] (fun m => PoM m (F.p i) ∧ MSrc m 2 (slV wq wish.length) wish.length (wish.flatMap Pr.row)) (F.as fb)
    (fun z : Vl × Option Pp1 => .tuple #[.agg z.1.row.toArray, .bool (rdO (poE (F.p i)))]) (fun z m => Dn m (F.p i) z.2 (fun e => propE e wish) ∧ VlM m z.1 ∧ (rdO (poE (F.p i)) = true → ∃ e, poE z.2 = some e ∧ z.1.er = e.ch)) (fun z => (F.setP i z.2).as fb) := by
  cases h : F.p i with
  | none =>
    refine Ctr.mk fun w G m C hp => (dp_nil.prop wq wish.length).calls (As := F.as fb) C trivial fun j m' w' hk hm hpo C2 => ⟨(vl0, none), m', [], rfl, ⟨⟨trivial, rfl, rfl⟩, vl0_M _, fun h => by simp [rdO] at h⟩, ?_⟩
    have e : F.setP i none = F := by show { F with p := upd F.p i none } = F; rw [← h, upd_self]
    rw [e]; exact C2.noL
  | some z =>
    refine Ctr.mk fun w G m C hp => (fP (fb := fb) hi h (c_Propose z.1 z.2.1 z.2.2 wq wish hw)).calls (As := []) (C.perm (by rw [List.append_nil])) hp fun y m' w' hk hm hpo C2 => ⟨(y.2, some (z.1, z.2.1, y.1)), m', [], rfl, ⟨⟨hpo.1, rfl, ?_⟩, hpo.2.2.1, fun hr => ⟨_, rfl, ?_⟩⟩, (C2.noL.perm (by rw [List.append_nil]))⟩
    · show some y.1.er = some _
      rw [hpo.2.1]
    · have hr' : readyE z.2.2.er = true := hr
      have h4 := hpo.2.2.2
      rw [hr', if_pos rfl] at h4
      exact h4
def chO : Option Pe → List Pr × List Ev
  | none => ([], [])
  | some e => e.ch
theorem f_Value (hi : i < 5) : Ctr Try.prog 39 #[ptP (F.p i)] (fun m => PoM m (F.p i)) (F.as fb) (fun u : Vl => .agg u.row.toArray) (fun u m => VlM m u ∧ u.er = chO (poE (F.p i))) (fun _ => F.as fb) := by
  cases h : F.p i with
  | none => exact fN (Ctr.mk fun w G m C hp => dp_nil.val.calls (As := []) C trivial fun j m' w' hk hm hpo C2 => ⟨vl0, m', [], rfl, ⟨vl0_M _, rfl⟩, C2.noL⟩)
  | some z => exact Ctr.mk fun w G m C hp => (fP0 (fb := fb) hi h (c_Value z.1 z.2.1 z.2.2)).calls (As := []) (C.perm (by rw [List.append_nil])) hp fun u m' w' hk hm hpo C2 => ⟨u, m', [], rfl, hpo, (C2.noL.perm (by rw [List.append_nil]))⟩
end
/-! ### tails -/
def killE (i : Nat) : Ev := ⟨2, ⟨0, 0, 0, 0, 0, 0, 0, 0, 0, 0⟩, 0, [], 0, ⟨#[]⟩, [], i, 1⟩
def tailE (n : Nat) : List Ev := (List.range n).map killE
def killN (i : Nat) : En := ⟨2, ⟨0, 0, 0, 0, 0, 0, 0, 0, 0, 0⟩, 0, (none, 0), [], 0, ⟨#[]⟩, (none, 0), [], i, 1⟩
theorem kill_M (m : Mem) (i : Nat) : EnM m (killN i) := ⟨.nil .., .nil .., by simp [killN], by simp [killN]⟩
theorem c_tail (n : Nat) (hn : n < 256) : Ctr Try.prog 67 #[.int .i64 n] noMem [] (fun f : Sl × List En => slV f.1 f.2.length) (fun f m => EsM m f.1 f.2 ∧ f.2.map En.er = tailE n) (fun _ => []) := by
  refine Ctr.mk fun w F m C _ => x_tail _ w _ ?_
  refine ⟨fun p k c i w' _ => ∃ (j : Nat), i = j ∧ j = k ∧ j ≤ n ∧ Ctx F m w w' [] m [slA (.slice p j c) j (((List.range j).map killN).flatMap En.row) 127 18], fun _ _ _ i _ => (n - i).toNat, ⟨0, rfl, rfl, by omega, C.slNil⟩, ?_⟩
  clear C
  rintro p k c i w7 L8 _ ⟨j, rfl, rfl, hj, D⟩
  by_cases hjl : j < n
  rotate_left
  · rw [if_neg (by simpa using hjl)]
    have hj2 : j = n := by omega
    subst hj2
    obtain ⟨m2, hm2, hs, D2⟩ := D.slShare
    refine Ctr.ret (m' := m2) (L := []) ((p, c), (List.range j).map killN) (by simp) ⟨⟨by simpa using hs, fun e h => ?_⟩, ?_⟩ D2.noL
    · obtain ⟨i, _, rfl⟩ := List.mem_map.1 h
      exact kill_M _ _
    · rw [List.map_map]; rfl
  rw [if_pos (by simpa using hjl)]
  refine D.gives (c_proc j (by omega)) fun w10 k10 D => ⟨_, _, rfl, k10.size, ?_⟩
  have D0 := (D.alloc (killN j).row 127).swap
  have hcl : Cells _ ⟨w10.heap.size, 0, none⟩ (killN j).row := (D.alloc (killN j).row 127).blkCells (o := 0) fun k v e => by simpa using e
  obtain ⟨q2, c2, w67, hr, hkk, D2⟩ := Ctx.app2 (P := Try.prog) (bytes := 400) (t := 44) (t2 := 44) D0 44 (by kernel_rfl) (.some ⟨w10.heap.size, 0, none⟩ 1 1 (killN j).row rfl hcl) (by unfold maxLen; omega) (by omega) (en_one _)
  have e2 : ((List.range (j + 1)).map killN).flatMap En.row = ((List.range j).map killN).flatMap En.row ++ (killN j).row := by rw [List.range_succ, List.map_append, List.flatMap_append]; simp
  have e : IntKind.wrap .i64 ((j : Int) + 1) = ((j + 1 : Nat) : Int) := by rw [w_i64 (by omega) (by omega)]; omega
  refine ⟨q2, _, c2, w67, hr, hkk.size, ?_⟩
  rw [e]
  refine ⟨⟨j + 1, rfl, rfl, hjl, ?_⟩, Nat.le_of_eq (by show ((n : Int) - ((j + 1 : Nat) : Int)).toNat + 1 = ((n : Int) - (j : Int)).toNat; omega)⟩
  rw [e2]
  exact Ctx.noL (D2.pk [0] [1] rfl)
end Go.Proofs
