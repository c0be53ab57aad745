import Derived.Test.YtjabbpcfinjofaaU23k
import Derived.Test.YtjabbpcfinjofaaV23e
set_option linter.unusedVariables false
set_option linter.unusedSimpArgs false
set_option maxRecDepth 10000
namespace Go.Proofs
open Go X RowKit
theorem c_ProcP (p : Pr) : Gives Try.prog 60 #[.agg p.row.toArray] (.agg p.row.toArray) := c_Proc p.n p.l
theorem c_Procs (q : Sl) (l : List Pr) (hl : l.length * 48 ≤ 140737488355328) : Ctr Try.prog 74 #[slV q l.length] (fun m => MSrc m 2 (slV q l.length) l.length (l.flatMap Pr.row)) [] (fun p : Sl => slV p l.length) (fun p m => MSrc m 2 (slV p l.length) l.length (l.flatMap Pr.row)) (fun _ => []) := by
  refine Ctr.mk fun w F m C hp => x_Procs _ _ _ w _ ?_
  refine ⟨fun p k c i w' _ => ∃ (j : Nat) (m' : Mem), i = j ∧ j = k ∧ j ≤ l.length ∧ m.le m' ∧ Ctx F m w w' [] m' [slA (.slice p j c) j ((l.take j).flatMap Pr.row) 98 2], fun _ _ _ i _ => (l.length - i).toNat, ⟨0, m, rfl, rfl, by omega, Mem.le_refl _, C.slNil⟩, ?_⟩
  clear C
  rintro p k c i w7 L8 _ ⟨j, m', rfl, rfl, hj, hm, D⟩
  by_cases hjl : j < l.length
  · rw [if_pos (by simpa using hjl)]
    refine ⟨by omega, by simpa using hjl, ?_⟩
    obtain ⟨a, ha, hc⟩ := (hp.mono hm).elem pr_len hjl
    have ha : q.1 = some a := ha
    rw [ha, onSome_some]
    refine ⟨_, _, D.cells hc, ?_⟩
    refine D.gives (c_ProcP l[j]) fun w16 k16 D => ⟨_, _, rfl, k16.size, ?_⟩
    have D1 := (D.alloc l[j].row 98).swap
    have hcl : Cells _ ⟨w16.heap.size, 0, none⟩ l[j].row := (D.alloc l[j].row 98).blkCells (o := 0) fun k v e => by simpa using e
    obtain ⟨q2, c2, w25, hr, hkk, D2⟩ := D1.app2 (P := Try.prog) (bytes := 48) (t := 120) (t2 := 120) 120 (by kernel_rfl) (.some ⟨w16.heap.size, 0, none⟩ 1 1 l[j].row rfl hcl) (by unfold maxLen; omega) (by omega) (pr_one _)
    have e : IntKind.wrap .i64 ((j : Int) + 1) = ((j + 1 : Nat) : Int) := by rw [w_i64 (by omega) (by omega)]; omega
    refine ⟨q2, j + 1, c2, w25, hr, hkk.size, ?_⟩
    rw [e]
    refine ⟨⟨j + 1, m', rfl, rfl, hjl, hm, ?_⟩, Nat.le_of_eq (by show ((l.length : Int) - ((j + 1 : Nat) : Int)).toNat + 1 = ((l.length : Int) - (j : Int)).toNat; omega)⟩
    have e2 : (l.take (j + 1)).flatMap Pr.row = (l.take j).flatMap Pr.row ++ l[j].row := by rw [List.take_succ_eq_append_getElem hjl, List.flatMap_append]; simp
    rw [e2]
    exact Ctx.noL (D2.pk [0] [1] rfl)
  · rw [if_neg (by simpa using hjl)]
    have hj2 : j = l.length := by omega
    subst hj2
    rw [List.take_length] at D
    obtain ⟨m2, hm2, hs, D2⟩ := D.slShare
    exact Ctr.ret (m' := m2) (L := []) (p, c) rfl hs D2.noL
theorem c_ClonePr (q : Sl) (l : List Pr) (hl : l.length * 48 ≤ 140737488355328) : Ctr Try.prog 70 #[slV q l.length] (fun m => MSrc m 2 (slV q l.length) l.length (l.flatMap Pr.row)) [] (fun p : Sl => slV p l.length) (fun p m => MSrc m 2 (slV p l.length) l.length (l.flatMap Pr.row)) (fun _ => []) := by
  obtain ⟨q1, q2⟩ := q
  refine Ctr.mk fun w F m C hp => x_ClonePr q1 _ q2 w _ ?_
  cases q1 with
  | none =>
    rw [if_pos (show (none : Option Addr).isNone = true from rfl)]
    obtain ⟨h0, h1⟩ := hp.none_len
    rw [h0, h1]
    exact Ctr.ret (none, 0) rfl (.nil ..) C
  | some a =>
    rw [if_neg (by simp)]
    have C1 : Ctx F m w _ [] m [slA (.slice (some ⟨w.heap.size, 0, none⟩) 0 0) 0 [] 98 2] := (C.newDrop [] 98).slNil
    obtain ⟨q1, c1, w4, hr, hk, C2⟩ := C1.app2 (P := Try.prog) (bytes := 48) (t := 120) (t2 := 120) 120 (by kernel_rfl) (C1.src hp) (by unfold maxLen; omega) (by omega) (flat_one pr_one l)
    rw [List.nil_append, Nat.zero_add] at C2
    rw [Nat.zero_add] at hr
    refine ⟨q1, l.length, c1, w4, hr, hk.size, ?_⟩
    obtain ⟨m', hm, hs, C3⟩ := C2.slShare
    exact Ctr.ret (m' := m') (L := []) (q1, c1) rfl hs C3
theorem c_CloneEd (q : Sl) (l : List Ed) (hl : l.length * 120 ≤ 140737488355328) : Ctr Try.prog 50 #[slV q l.length] (fun m => MSrc m 17 (slV q l.length) l.length (l.flatMap Ed.row)) [] (fun p : Sl => slV p l.length) (fun p m => MSrc m 17 (slV p l.length) l.length (l.flatMap Ed.row)) (fun _ => []) := by
  obtain ⟨q1, q2⟩ := q
  refine Ctr.mk fun w F m C hp => x_CloneEd q1 _ q2 w _ ?_
  cases q1 with
  | none =>
    rw [if_pos (show (none : Option Addr).isNone = true from rfl)]
    obtain ⟨h0, h1⟩ := hp.none_len
    rw [h0, h1]
    exact Ctr.ret (none, 0) rfl (.nil ..) C
  | some a =>
    rw [if_neg (by simp)]
    have C1 : Ctx F m w _ [] m [slA (.slice (some ⟨w.heap.size, 0, none⟩) 0 0) 0 [] 116 17] := (C.newDrop [] 116).slNil
    obtain ⟨q1, c1, w4, hr, hk, C2⟩ := C1.app2 (P := Try.prog) (bytes := 120) (t := 73) (t2 := 73) 73 (by kernel_rfl) (C1.src hp) (by unfold maxLen; omega) (by omega) (flat_one ed_one l)
    rw [List.nil_append, Nat.zero_add] at C2
    rw [Nat.zero_add] at hr
    refine ⟨q1, l.length, c1, w4, hr, hk.size, ?_⟩
    obtain ⟨m', hm, hs, C3⟩ := C2.slShare
    exact Ctr.ret (m' := m') (L := []) (q1, c1) rfl hs C3
def Vw.at_ (v : Vw) (p : Sl) : Vw := { v with q := p }
theorem c_Own6 (v : Vw) (hl : v.ps.length * 48 ≤ 140737488355328) : Ctr Try.prog 63 #[.agg v.row.toArray] (fun m => v.M m) [] (fun p : Sl => .agg (v.at_ p).row.toArray) (fun p m => (v.at_ p).M m) (fun _ => []) := by
  refine Ctr.mk fun w F m C hv => x_Own6 _ _ _ _ _ w _ ⟨[], facts_nil _ _, fun w2 L3 h2 g2 => ?_⟩
  refine (c_Procs v.q v.ps hl).call (As := []) (C.hidL h2 g2) hv fun p m1 w5 hk hm1 hp C => ⟨_, _, _, rfl, hk, facts_nil _ _, fun w9 h9 => ?_⟩
  exact Ctr.ret (m' := m1) (L := []) p rfl hp (C.hid0 h9)
theorem c_CloneV (v : Vw) (hl : v.ps.length * 48 ≤ 140737488355328) : Ctr Try.prog 51 #[.agg v.row.toArray] (fun m => v.M m) [] (fun p : Sl => .agg (v.at_ p).row.toArray) (fun p m => (v.at_ p).M m) (fun _ => []) := by
  refine Ctr.mk fun w F m C hv => x_CloneV _ _ _ _ _ w _ fun w2 L3 h2 g2 => ?_
  refine (c_ClonePr v.q v.ps hl).call (As := []) (C.hidL h2 g2) hv fun p m1 w5 hk hm1 hp C => ⟨_, _, _, rfl, hk, fun w9 h9 => ?_⟩
  exact Ctr.ret (m' := m1) (L := []) p rfl hp (C.hid0 h9)
theorem c_of (v : Vw) : Gives Try.prog 62 #[.agg v.row.toArray] (.agg #[.int .u8 v.g, .int .u32 v.n]) := fun w => x_of _ _ _ _ _ w _ fun w1 h1 => ⟨rfl, hid_below h1 (by simp) (Nat.le_refl _)⟩
def Bg.M (m : Mem) (b : Bg) : Prop := MSrc m 5 (slV b.pq b.ps.length) b.ps.length (b.ps.flatMap Pt.row)
def Bg.at' (b : Bg) (p : Sl) : Bg := { b with pq := p }
theorem c_lBegun (b : Bg) (hl : b.ps.length * 48 ≤ 140737488355328) : Ctr Try.prog 26 #[.agg b.row.toArray] (fun m => b.M m) [] (fun p : Sl => .agg (b.at' p).row.toArray) (fun p m => (b.at' p).M m) (fun _ => []) := by
  refine Ctr.mk fun w F m C hb => x_lBegun _ _ _ _ _ _ _ _ _ _ _ _ _ _ _ _ w _ ⟨[], facts_nil _ _, fun w2 L3 h2 g2 => ?_⟩
  refine (C.hidL h2 g2).gives (c_ID b.id) fun w5 k5 C => ⟨_, _, _, _, _, _, _, _, _, _, rfl, k5, facts_nil _ _, ?_⟩
  refine (c_Parts b.pq b.ps hl).call (As := []) C hb fun p m1 w17 hk hm1 hp C => ⟨_, _, _, rfl, hk, facts_nil _ _, fun w21 h21 => ?_⟩
  exact Ctr.ret (m' := m1) (L := []) p rfl hp (C.hid0 h21)
theorem c_lEnd (e : Ed) : Ctr Try.prog 28 #[.agg e.row.toArray] noMem [] (fun _ : Unit => .agg e.row.toArray) (fun _ _ => True) (fun _ => []) := by
  refine Ctr.mk fun w F m C _ => x_lEnd _ _ _ _ _ _ _ _ _ _ _ _ _ _ _ _ _ w _ ⟨[], facts_nil _ _, fun w2 L3 h2 g2 => ?_⟩
  refine (C.hidL h2 g2).gives (c_ID e.id) fun w5 k5 C => ⟨_, _, _, _, _, _, _, _, _, _, rfl, k5, facts_nil _ _, ?_⟩
  refine C.gives (c_Res e.rc e.rv) fun w17 k17 C => ⟨_, _, rfl, k17, facts_nil _ _, fun w20 h20 => ?_⟩
  exact Ctr.ret (m' := m) (L := []) () rfl trivial (C.hid0 h20)
def Td.at_ (t : Td) (p : Sl) : Td := { t with v := t.v.at_ p }
theorem c_lTold (t : Td) (hl : t.v.ps.length * 48 ≤ 140737488355328) : Ctr Try.prog 31 #[.agg t.row.toArray] (fun m => t.v.M m) [] (fun p : Sl => .agg (t.at_ p).row.toArray) (fun p m => (t.at_ p).v.M m) (fun _ => []) := by
  refine Ctr.mk fun w F m C ht => x_lTold _ _ _ _ _ _ _ _ _ _ _ _ _ _ _ _ _ _ _ w _ ⟨[], facts_nil _ _, fun w2 L3 h2 g2 => ?_⟩
  refine (C.hidL h2 g2).gives (c_ProcP t.f) fun w5 k5 C => ⟨_, _, rfl, k5, facts_nil _ _, ?_⟩
  refine C.gives (c_ID t.id) fun w9 k9 C => ⟨_, _, _, _, _, _, _, _, _, _, rfl, k9, facts_nil _ _, ?_⟩
  refine C.gives (c_Res t.rc t.rv) fun w21 k21 C => ⟨_, _, rfl, k21, facts_nil _ _, ?_⟩
  refine (c_Own6 t.v hl).call (As := []) C ht fun p m1 w25 hk hm1 hp C => ⟨_, _, _, _, _, rfl, hk, facts_nil _ _, fun w31 h31 => ?_⟩
  exact Ctr.ret (m' := m1) (L := []) p rfl hp (C.hid0 h31)
def St.at_ (s : St) (p : Sl) : St := { s with v := s.v.at_ p }
theorem c_lSat (s : St) (hl : s.v.ps.length * 48 ≤ 140737488355328) : Ctr Try.prog 33 #[.agg s.row.toArray] (fun m => s.v.M m) [] (fun p : Sl => .agg (s.at_ p).row.toArray) (fun p m => (s.at_ p).v.M m) (fun _ => []) := by
  refine Ctr.mk fun w F m C ht => x_lSat _ _ _ _ _ _ _ w _ ⟨[], facts_nil _ _, fun w2 L3 h2 g2 => ?_⟩
  refine (C.hidL h2 g2).gives (c_ProcP s.w) fun w5 k5 C => ⟨_, _, rfl, k5, facts_nil _ _, ?_⟩
  refine (c_Own6 s.v hl).call (As := []) C ht fun p m1 w25 hk hm1 hp C => ⟨_, _, _, _, _, rfl, hk, facts_nil _ _, fun w31 h31 => ?_⟩
  exact Ctr.ret (m' := m1) (L := []) p rfl hp (C.hid0 h31)
theorem c_num (n : Int) : Gives Try.prog 19 #[.int .i64 n] (.int .i64 n) := fun w => x_num n w _ ⟨rfl, below_refl _ w⟩
/-! ### no annal, and one that nobody made -/
abbrev Fls (f : FuncId) (args : Array Value) (pre : Mem → Prop) (r : Value) (As : List Asn) : Prop := Ctr Try.prog f args pre As (fun _ : Unit => r) (fun _ _ => True) (fun _ => As)
structure Dead (v : Value) (As : List Asn) : Prop where
  begin_ : ∀ b : Bg, b.ps.length * 48 ≤ 140737488355328 → Fls 25 #[v, .agg b.row.toArray] (fun m => b.M m) (.bool false) As
  end_ : ∀ e : Ed, Fls 27 #[v, .agg e.row.toArray] noMem (.bool false) As
  tell : ∀ t : Td, t.v.ps.length * 48 ≤ 140737488355328 → Fls 30 #[v, .agg t.row.toArray] (fun m => t.v.M m) (.bool false) As
  sit : ∀ s : St, s.v.ps.length * 48 ≤ 140737488355328 → Fls 32 #[v, .agg s.row.toArray] (fun m => s.v.M m) (.bool false) As
  commit : ∀ (g c : Int) (e : En), Fls 22 #[v, .int .u8 g, .int .i64 c, .agg e.row.toArray] noMem (.bool false) As
  begins : Fls 15 #[v] noMem (.slice none 0 0) As
  ends : Fls 16 #[v] noMem (.slice none 0 0) As
  tolds : Fls 17 #[v] noMem (.slice none 0 0) As
  sats : Fls 18 #[v] noMem (.slice none 0 0) As
  order : ∀ g : Int, Fls 9 #[v, .int .u8 g] noMem (.slice none 0 0) As
  splits : Fls 12 #[v] noMem (.int .i64 0) As
def unA : List Value := pre0 ++ [.slice none 0 0, .slice none 0 0, .slice none 0 0, .slice none 0 0, .int .i64 0, .bool false]
theorem c_nil_none : Fls 23 #[.pointer none] noMem (.bool true) [] := Ctr.mk fun w F m C _ => x_nil_none w _ (Ctr.ret () rfl trivial C)
theorem c_un_none (b : Nat) : Fls 23 #[.pointer (some ⟨b, 0, none⟩)] noMem (.bool true) [blk b unA 92] := Ctr.mk fun w F m C _ => x_annal_Annal_none _ w _ ⟨false, by rw [Addr.add_mid]; exact C.blkCell (j := 13) rfl, Ctr.ret () rfl trivial C⟩
theorem dead_nil : Dead (.pointer none) [] where
  begin_ := fun b hl => Ctr.mk fun w F m C hb => x_nil_Begin _ _ _ _ _ _ _ _ _ _ _ _ _ _ _ _ w _ fun w1 L2 h1 g1 => by
    refine (c_CloneP b.pq b.ps hl).call (As := []) (C.hidL h1 g1) hb fun p m1 w4 hk hm1 hp C => ⟨_, _, _, rfl, hk, [], facts_nil _ _, fun w9 L10 h9 g9 => ?_⟩
    refine c_nil_none.call (As := []) (C.hidL h9 g9) trivial fun _ m2 w12 hk hm2 _ C => ⟨_, rfl, hk, facts_nil _ _, [], facts_nil _ _, by simp, ?_⟩
    rw [if_neg (by decide)]
    exact Ctr.ret (m' := m2) () rfl trivial C
  end_ := fun e => Ctr.mk fun w F m C _ => x_nil_End _ _ _ _ _ _ _ _ _ _ _ _ _ _ _ _ _ w _ ⟨[], facts_nil _ _, fun w2 L3 h2 g2 => by
    refine c_nil_none.call (As := []) (C.hidL h2 g2) trivial fun _ m2 w12 hk hm2 _ C => ⟨_, rfl, hk, facts_nil _ _, [], facts_nil _ _, by simp, ?_⟩
    rw [if_neg (by decide)]
    exact ⟨[], facts_nil _ _, by simp, Ctr.ret (m' := m2) () rfl trivial C⟩⟩
  tell := fun t hl => Ctr.mk fun w F m C hb => x_nil_Tell _ _ _ _ _ _ _ _ _ _ _ _ _ _ _ _ _ _ _ w _ fun w1 L2 h1 g1 => by
    refine (c_CloneV t.v hl).call (As := []) (C.hidL h1 g1) hb fun p m1 w4 hk hm1 hp C => ⟨_, _, _, _, _, rfl, hk, [], facts_nil _ _, fun w9 L10 h9 g9 => ?_⟩
    refine c_nil_none.call (As := []) (C.hidL h9 g9) trivial fun _ m2 w12 hk hm2 _ C => ⟨_, rfl, hk, facts_nil _ _, [], facts_nil _ _, by simp, ?_⟩
    rw [if_neg (by decide)]
    exact Ctr.ret (m' := m2) () rfl trivial C
  sit := fun s hl => Ctr.mk fun w F m C hb => x_nil_Sit _ _ _ _ _ _ _ w _ fun w1 L2 h1 g1 => by
    refine (c_CloneV s.v hl).call (As := []) (C.hidL h1 g1) hb fun p m1 w4 hk hm1 hp C => ⟨_, _, _, _, _, rfl, hk, [], facts_nil _ _, fun w9 L10 h9 g9 => ?_⟩
    refine c_nil_none.call (As := []) (C.hidL h9 g9) trivial fun _ m2 w12 hk hm2 _ C => ⟨_, rfl, hk, facts_nil _ _, [], facts_nil _ _, by simp, ?_⟩
    rw [if_neg (by decide)]
    exact Ctr.ret (m' := m2) () rfl trivial C
  commit := fun g c e => Ctr.mk fun w F m C _ => x_nil_Commit _ _ _ _ _ _ _ _ _ _ _ _ _ _ _ _ _ _ _ _ _ _ _ _ w _ fun w2 L3 h2 g2 => by
    refine c_nil_none.call (As := []) (C.hidL h2 g2) trivial fun _ m2 w12 hk hm2 _ C => ⟨_, rfl, hk, ?_⟩
    rw [if_neg (by simp)]
    exact Ctr.ret (m' := m2) () rfl trivial C
  begins := Ctr.mk fun w F m C _ => x_nil_Begins w _ <| by
    refine c_nil_none.call (As := []) C trivial fun _ m2 w12 hk hm2 _ C => ⟨_, rfl, hk.size, ?_⟩
    rw [if_pos (by simp)]
    exact Ctr.ret (m' := m2) () rfl trivial C
  ends := Ctr.mk fun w F m C _ => x_nil_Ends w _ <| by
    refine c_nil_none.call (As := []) C trivial fun _ m2 w12 hk hm2 _ C => ⟨_, rfl, hk.size, ?_⟩
    rw [if_pos (by simp)]
    exact Ctr.ret (m' := m2) () rfl trivial C
  tolds := Ctr.mk fun w F m C _ => x_nil_Tolds w _ <| by
    refine c_nil_none.call (As := []) C trivial fun _ m2 w12 hk hm2 _ C => ⟨_, rfl, hk.size, ?_⟩
    rw [if_pos (by simp)]
    exact Ctr.ret (m' := m2) () rfl trivial C
  sats := Ctr.mk fun w F m C _ => x_nil_Sats w _ <| by
    refine c_nil_none.call (As := []) C trivial fun _ m2 w12 hk hm2 _ C => ⟨_, rfl, hk.size, ?_⟩
    rw [if_pos (by simp)]
    exact Ctr.ret (m' := m2) () rfl trivial C
  order := fun g => Ctr.mk fun w F m C _ => x_nil_Order _ w _ <| by
    refine c_nil_none.call (As := []) C trivial fun _ m2 w12 hk hm2 _ C => ⟨_, rfl, hk.size, ?_⟩
    rw [if_pos (by simp)]
    exact Ctr.ret (m' := m2) () rfl trivial C
  splits := Ctr.mk fun w F m C _ => x_nil_Splits w _ <| by
    refine c_nil_none.call (As := []) C trivial fun _ m2 w12 hk hm2 _ C => ⟨_, rfl, hk.size, ?_⟩
    rw [if_pos (by simp)]
    exact Ctr.ret (m' := m2) () rfl trivial C
theorem dead_un (bk : Nat) : Dead (.pointer (some ⟨bk, 0, none⟩)) [blk bk unA 92] where
  begin_ := fun b hl => Ctr.mk fun w F m C hb => x_Begin _ _ _ _ _ _ _ _ _ _ _ _ _ _ _ _ _ w _ fun w1 L2 h1 g1 => by
    refine (c_CloneP b.pq b.ps hl).call (As := [blk bk unA 92]) (C.hidL h1 g1) hb fun p m1 w4 hk hm1 hp C => ⟨_, _, _, rfl, hk, [], facts_nil _ _, fun w9 L10 h9 g9 => ?_⟩
    refine (c_un_none bk).call (As := []) (C.hidL h9 g9) trivial fun _ m2 w12 hk hm2 _ C => ⟨_, rfl, hk, facts_nil _ _, [], facts_nil _ _, by simp, ?_⟩
    rw [if_neg (by decide)]
    exact Ctr.ret (m' := m2) () rfl trivial C
  end_ := fun e => Ctr.mk fun w F m C _ => x_End _ _ _ _ _ _ _ _ _ _ _ _ _ _ _ _ _ _ w _ ⟨[], facts_nil _ _, fun w2 L3 h2 g2 => by
    refine (c_un_none bk).call (As := []) (C.hidL h2 g2) trivial fun _ m2 w12 hk hm2 _ C => ⟨_, rfl, hk, facts_nil _ _, [], facts_nil _ _, by simp, ?_⟩
    rw [if_neg (by decide)]
    exact ⟨[], facts_nil _ _, by simp, Ctr.ret (m' := m2) () rfl trivial C⟩⟩
  tell := fun t hl => Ctr.mk fun w F m C hb => x_Tell _ _ _ _ _ _ _ _ _ _ _ _ _ _ _ _ _ _ _ _ w _ fun w1 L2 h1 g1 => by
    refine (c_CloneV t.v hl).call (As := [blk bk unA 92]) (C.hidL h1 g1) hb fun p m1 w4 hk hm1 hp C => ⟨_, _, _, _, _, rfl, hk, [], facts_nil _ _, fun w9 L10 h9 g9 => ?_⟩
    refine (c_un_none bk).call (As := []) (C.hidL h9 g9) trivial fun _ m2 w12 hk hm2 _ C => ⟨_, rfl, hk, facts_nil _ _, [], facts_nil _ _, by simp, ?_⟩
    rw [if_neg (by decide)]
    exact Ctr.ret (m' := m2) () rfl trivial C
  sit := fun s hl => Ctr.mk fun w F m C hb => x_Sit _ _ _ _ _ _ _ _ w _ fun w1 L2 h1 g1 => by
    refine (c_CloneV s.v hl).call (As := [blk bk unA 92]) (C.hidL h1 g1) hb fun p m1 w4 hk hm1 hp C => ⟨_, _, _, _, _, rfl, hk, [], facts_nil _ _, fun w9 L10 h9 g9 => ?_⟩
    refine (c_un_none bk).call (As := []) (C.hidL h9 g9) trivial fun _ m2 w12 hk hm2 _ C => ⟨_, rfl, hk, facts_nil _ _, [], facts_nil _ _, by simp, ?_⟩
    rw [if_neg (by decide)]
    exact Ctr.ret (m' := m2) () rfl trivial C
  commit := fun g c e => Ctr.mk fun w F m C _ => x_annal_Annal_Commit _ _ _ _ _ _ _ _ _ _ _ _ _ _ _ _ _ _ _ _ _ _ _ _ _ w _ fun w2 L3 h2 g2 => by
    refine (c_un_none bk).call (As := []) (C.hidL h2 g2) trivial fun _ m2 w12 hk hm2 _ C => ⟨_, rfl, hk, ?_⟩
    rw [if_neg (by simp)]
    exact Ctr.ret (m' := m2) () rfl trivial C
  begins := Ctr.mk fun w F m C _ => x_Begins _ w _ <| by
    refine (c_un_none bk).call (As := []) C trivial fun _ m2 w12 hk hm2 _ C => ⟨_, rfl, hk.size, ?_⟩
    rw [if_pos (by simp)]
    exact Ctr.ret (m' := m2) () rfl trivial C
  ends := Ctr.mk fun w F m C _ => x_Ends _ w _ <| by
    refine (c_un_none bk).call (As := []) C trivial fun _ m2 w12 hk hm2 _ C => ⟨_, rfl, hk.size, ?_⟩
    rw [if_pos (by simp)]
    exact Ctr.ret (m' := m2) () rfl trivial C
  tolds := Ctr.mk fun w F m C _ => x_Tolds _ w _ <| by
    refine (c_un_none bk).call (As := []) C trivial fun _ m2 w12 hk hm2 _ C => ⟨_, rfl, hk.size, ?_⟩
    rw [if_pos (by simp)]
    exact Ctr.ret (m' := m2) () rfl trivial C
  sats := Ctr.mk fun w F m C _ => x_Sats _ w _ <| by
    refine (c_un_none bk).call (As := []) C trivial fun _ m2 w12 hk hm2 _ C => ⟨_, rfl, hk.size, ?_⟩
    rw [if_pos (by simp)]
    exact Ctr.ret (m' := m2) () rfl trivial C
  order := fun g => Ctr.mk fun w F m C _ => x_annal_Annal_Order _ _ w _ <| by
    refine (c_un_none bk).call (As := []) C trivial fun _ m2 w12 hk hm2 _ C => ⟨_, rfl, hk.size, ?_⟩
    rw [if_pos (by simp)]
    exact Ctr.ret (m' := m2) () rfl trivial C
  splits := Ctr.mk fun w F m C _ => x_annal_Annal_Splits _ w _ <| by
    refine (c_un_none bk).call (As := []) C trivial fun _ m2 w12 hk hm2 _ C => ⟨_, rfl, hk.size, ?_⟩
    rw [if_pos (by simp)]
    exact Ctr.ret (m' := m2) () rfl trivial C
end Go.Proofs
