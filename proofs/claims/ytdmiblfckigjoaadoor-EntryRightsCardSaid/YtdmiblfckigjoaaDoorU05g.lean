import Derived.Test.YtdmiblfckigjoaaDoorU05f
import Derived.Test.YtdmiblfckigjoaaDoorV05d
set_option linter.unusedVariables false
set_option linter.unusedSimpArgs false
set_option maxRecDepth 10000
namespace Go.Proofs
open Go X RowKit
/-! ### entries that are owned -/
theorem addr_off (ad : Addr) (n : Nat) : (ad.add n).off = ad.off + n := by unfold Addr.add; split <;> simp_all
theorem c_ClonePO (q : Sl) (l : List Pt) (hl : l.length * 48 ≤ 140737488355328) : Ctr Tryd.prog 37 #[slV q l.length] (fun m => MSrc m 5 (slV q l.length) l.length (l.flatMap Pt.row)) [] (fun p : Sl => slV p l.length) (fun _ _ => True) (fun p : Sl => [slA (slV p l.length) l.length (l.flatMap Pt.row) 56 5]) := by
  obtain ⟨q1, q2⟩ := q
  refine Ctr.mk fun w F m C hp => x_CloneP q1 _ q2 w _ ?_
  cases q1 with
  | none =>
    rw [if_pos (show (none : Option Addr).isNone = true from rfl)]
    obtain ⟨h0, h1⟩ := hp.none_len
    rw [h0, h1]
    exact Ctr.ret (m' := m) (L := []) (none, 0) rfl trivial C.slNil
  | some a =>
    rw [if_neg (by simp)]
    have C1 : Ctx F m w _ [] m [slA (.slice (some ⟨w.heap.size, 0, none⟩) 0 0) 0 [] 56 5] := (C.newDrop [] 56).slNil
    obtain ⟨q1, c1, w4, hr, hk, C2⟩ := C1.app2 (P := Tryd.prog) (bytes := 48) (t := 45) (t2 := 45) 45 (by kernel_rfl) (C1.src hp) (by unfold maxLen; omega) (by omega) (flat_one pt_one l)
    rw [List.nil_append, Nat.zero_add] at C2
    rw [Nat.zero_add] at hr
    refine ⟨q1, l.length, c1, w4, hr, hk.size, ?_⟩
    exact Ctr.ret (m' := m) (L := []) (q1, c1) rfl trivial C2
theorem c_CloneWO (q : Sl) (l : List Wr) (hl : l.length * 40 ≤ 140737488355328) : Ctr Tryd.prog 38 #[slV q l.length] (fun m => MSrc m 3 (slV q l.length) l.length (l.flatMap Wr.row)) [] (fun p : Sl => slV p l.length) (fun _ _ => True) (fun p : Sl => [slA (slV p l.length) l.length (l.flatMap Wr.row) 58 3]) := by
  obtain ⟨q1, q2⟩ := q
  refine Ctr.mk fun w F m C hp => x_CloneW q1 _ q2 w _ ?_
  cases q1 with
  | none =>
    rw [if_pos (show (none : Option Addr).isNone = true from rfl)]
    obtain ⟨h0, h1⟩ := hp.none_len
    rw [h0, h1]
    exact Ctr.ret (m' := m) (L := []) (none, 0) rfl trivial C.slNil
  | some a =>
    rw [if_neg (by simp)]
    have C1 : Ctx F m w _ [] m [slA (.slice (some ⟨w.heap.size, 0, none⟩) 0 0) 0 [] 58 3] := (C.newDrop [] 58).slNil
    obtain ⟨q1, c1, w4, hr, hk, C2⟩ := C1.app2 (P := Tryd.prog) (bytes := 40) (t := 47) (t2 := 47) 47 (by kernel_rfl) (C1.src hp) (by unfold maxLen; omega) (by omega) (flat_one wr_one l)
    rw [List.nil_append, Nat.zero_add] at C2
    rw [Nat.zero_add] at hr
    refine ⟨q1, l.length, c1, w4, hr, hk.size, ?_⟩
    exact Ctr.ret (m' := m) (L := []) (q1, c1) rfl trivial C2
theorem c_PartsO (q : Sl) (l : List Pt) (hl : l.length * 48 ≤ 140737488355328) : Ctr Tryd.prog 22 #[slV q l.length] (fun m => MSrc m 5 (slV q l.length) l.length (l.flatMap Pt.row)) [] (fun p : Sl => slV p l.length) (fun _ _ => True) (fun p : Sl => [slA (slV p l.length) l.length (l.flatMap Pt.row) 56 5]) := by
  refine Ctr.mk fun w F m C hp => x_Parts _ _ _ w _ ?_
  refine ⟨fun p k c i w' _ => ∃ (j : Nat) (m' : Mem), i = j ∧ j = k ∧ j ≤ l.length ∧ m.le m' ∧ Ctx F m w w' [] m' [slA (.slice p j c) j ((l.take j).flatMap Pt.row) 56 5], fun _ _ _ i _ => (l.length - i).toNat, ⟨0, m, rfl, rfl, by omega, Mem.le_refl _, C.slNil⟩, ?_⟩
  clear C
  rintro p k c i w7 L8 _ ⟨j, m', rfl, rfl, hj, hm, D⟩
  by_cases hjl : j < l.length
  · rw [if_pos (by simpa using hjl)]
    refine ⟨by omega, by simpa using hjl, ?_⟩
    obtain ⟨a, ha, hc⟩ := (hp.mono hm).elem pt_len hjl
    have ha : q.1 = some a := ha
    rw [ha, onSome_some]
    refine ⟨_, _, _, _, _, D.cells hc, ?_⟩
    refine D.gives (c_Part l[j]) fun w16 k16 D => ⟨_, _, _, _, _, rfl, k16.size, ?_⟩
    have D1 := (D.alloc l[j].row 56).swap
    have hcl : Cells _ ⟨w16.heap.size, 0, none⟩ l[j].row := (D.alloc l[j].row 56).blkCells (o := 0) fun k v e => by simpa using e
    obtain ⟨q2, c2, w25, hr, hkk, D2⟩ := D1.app2 (P := Tryd.prog) (bytes := 48) (t := 45) (t2 := 45) 45 (by kernel_rfl) (.some ⟨w16.heap.size, 0, none⟩ 1 1 l[j].row rfl hcl) (by unfold maxLen; omega) (by omega) (pt_one _)
    have e : IntKind.wrap .i64 ((j : Int) + 1) = ((j + 1 : Nat) : Int) := by rw [w_i64 (by omega) (by omega)]; omega
    refine ⟨q2, j + 1, c2, w25, hr, hkk.size, ?_⟩
    rw [e]
    refine ⟨⟨j + 1, m', rfl, rfl, hjl, hm, ?_⟩, Nat.le_of_eq (by show ((l.length : Int) - ((j + 1 : Nat) : Int)).toNat + 1 = ((l.length : Int) - (j : Int)).toNat; omega)⟩
    have e2 : (l.take (j + 1)).flatMap Pt.row = (l.take j).flatMap Pt.row ++ l[j].row := by rw [List.take_succ_eq_append_getElem hjl, List.flatMap_append]; simp
    rw [e2]
    exact Ctx.noL (D2.pk [0] [1] rfl)
  · rw [if_neg (by simpa using hjl)]
    have hj2 : j = l.length := by omega
    subst hj2
    rw [List.take_length] at D
    exact Ctr.ret (m' := m') (L := []) (p, c) rfl trivial D.noL
theorem c_OwnWO (q : Sl) (l : List Wr) (hl : l.length * 40 ≤ 140737488355328) : Ctr Tryd.prog 24 #[slV q l.length] (fun m => MSrc m 3 (slV q l.length) l.length (l.flatMap Wr.row)) [] (fun p : Sl => slV p l.length) (fun _ _ => True) (fun p : Sl => [slA (slV p l.length) l.length (l.flatMap Wr.row) 58 3]) := by
  refine Ctr.mk fun w F m C hp => x_OwnW _ _ _ w _ ?_
  refine ⟨fun p k c i w' _ => ∃ (j : Nat) (m' : Mem), i = j ∧ j = k ∧ j ≤ l.length ∧ m.le m' ∧ Ctx F m w w' [] m' [slA (.slice p j c) j ((l.take j).flatMap Wr.row) 58 3], fun _ _ _ i _ => (l.length - i).toNat, ⟨0, m, rfl, rfl, by omega, Mem.le_refl _, C.slNil⟩, ?_⟩
  clear C
  rintro p k c i w7 L8 _ ⟨j, m', rfl, rfl, hj, hm, D⟩
  by_cases hjl : j < l.length
  · rw [if_pos (by simpa using hjl)]
    obtain ⟨a, ha, hc⟩ := (hp.mono hm).elem wr_len hjl
    have ha : q.1 = some a := ha
    have hfw : ∀ {w' As}, Ctx F m w w' [] m' As → FactsW [((a.add (j * 3)).add 0, [.string l[j].key]), ((a.add (j * 3)).add 1, [.string l[j].val]), ((a.add (j * 3)).add 2, [.bool l[j].has])] w' [] := fun D =>
      D.memFact (mcells_part hc 0 _ (fun k v e => by match k, e with | 0, e => exact e)) (D.memFact (mcells_part hc 1 _ (fun k v e => by match k, e with | 0, e => exact e)) (D.memFact (mcells_part hc 2 _ (fun k v e => by match k, e with | 0, e => exact e)) (facts_nil _ _)))
    refine ⟨_, hfw D, by omega, by simpa using hjl, ?_⟩
    rw [ha, onSome_some]
    refine ⟨l[j].key, by rw [Int.toNat_natCast]; simp, by omega, by simpa using hjl, ?_⟩
    rw [onSome_some]
    refine ⟨l[j].val, by rw [Int.toNat_natCast]; simp, by omega, by simpa using hjl, ?_⟩
    rw [onSome_some]
    refine ⟨l[j].has, by rw [Int.toNat_natCast]; simp, fun w16 h16 => ?_⟩
    replace D := D.hid0 h16
    have D1 := (D.alloc l[j].row 58).swap
    have hcl : Cells _ ⟨w16.heap.size, 0, none⟩ l[j].row := (D.alloc l[j].row 58).blkCells (o := 0) fun k v e => by simpa using e
    obtain ⟨q2, c2, w25, hr, hkk, D2⟩ := D1.app2 (P := Tryd.prog) (bytes := 40) (t := 47) (t2 := 47) 47 (by kernel_rfl) (.some ⟨w16.heap.size, 0, none⟩ 1 1 l[j].row rfl hcl) (by unfold maxLen; omega) (by omega) (wr_one _)
    have e : IntKind.wrap .i64 ((j : Int) + 1) = ((j + 1 : Nat) : Int) := by rw [w_i64 (by omega) (by omega)]; omega
    refine ⟨hfw D1, q2, j + 1, c2, w25, hr, hkk.size, hfw D2, ?_⟩
    rw [e]
    refine ⟨⟨j + 1, m', rfl, rfl, hjl, hm, ?_⟩, Nat.le_of_eq (by show ((l.length : Int) - ((j + 1 : Nat) : Int)).toNat + 1 = ((l.length : Int) - (j : Int)).toNat; omega)⟩
    have e2 : (l.take (j + 1)).flatMap Wr.row = (l.take j).flatMap Wr.row ++ l[j].row := by rw [List.take_succ_eq_append_getElem hjl, List.flatMap_append]; simp
    rw [e2]
    exact Ctx.noL (D2.pk [0] [1] rfl)
  · rw [if_neg (by simpa using hjl)]
    have hj2 : j = l.length := by omega
    subst hj2
    rw [List.take_length] at D
    exact Ctr.ret (m' := m') (L := []) (p, c) rfl trivial D.noL
def enP (e : En) : List Asn := [slA (slV e.pq e.ps.length) e.ps.length (e.ps.flatMap Pt.row) 56 5, slA (slV e.wq e.ws.length) e.ws.length (e.ws.flatMap Wr.row) 58 3]
theorem c_OwnEO (e : En) : Ctr Tryd.prog 8 #[.agg e.row.toArray] (fun m => EnM m e) [] (fun f : En => .agg f.row.toArray) (fun f _ => f.er = e.er) (fun f => enP f) := by
  refine Ctr.mk fun w F m C he => x_OwnE _ _ _ _ _ _ _ _ _ _ _ _ _ _ _ _ _ _ _ _ _ _ w _ ⟨[], facts_nil _ _, fun w2 L3 h2 g2 => ?_⟩
  refine (C.hidL h2 g2).gives (c_ID e.id) fun w5 k5 C => ⟨_, _, _, _, _, _, _, _, _, _, rfl, k5, facts_nil _ _, ?_⟩
  refine (c_PartsO e.pq e.ps (by have := he.pl; omega)).call (As := []) C he.p fun p m1 w17 hk hm1 _ C => ⟨_, _, _, rfl, hk, facts_nil _ _, ?_⟩
  refine C.gives (c_Res e.rc e.rv) fun w22 k22 C => ⟨_, _, rfl, k22, facts_nil _ _, ?_⟩
  refine (c_OwnWO e.wq e.ws (by have := he.wl; omega)).call (As := [_]) C (he.w.mono hm1) fun q m2 w26 hk hm2 _ C => ⟨_, _, _, rfl, hk, facts_nil _ _, ?_⟩
  refine C.gives (c_Proc e.vn e.vl) fun w31 k31 C => ⟨_, _, rfl, k31, facts_nil _ _, fun w34 h34 => ?_⟩
  exact Ctr.ret (m' := m2) (L := []) { e with pq := p, wq := q } rfl rfl (C.hid0 h34).swap
theorem c_eCloneO (e : En) : Ctr Tryd.prog 11 #[.agg e.row.toArray] (fun m => EnM m e) [] (fun f : En => .agg f.row.toArray) (fun f _ => f.er = e.er) (fun f => enP f) := by
  refine Ctr.mk fun w F m C he => x_eClone _ _ _ _ _ _ _ _ _ _ _ _ _ _ _ _ _ _ _ _ _ _ w _ ⟨[], facts_nil _ _, fun w2 L3 h2 g2 => ?_⟩
  refine (c_ClonePO e.pq e.ps (by have := he.pl; omega)).call (As := []) (C.hidL h2 g2) he.p fun p m1 w5 hk hm1 _ C => ⟨_, _, _, rfl, hk, facts_nil _ _, ?_⟩
  refine (c_CloneWO e.wq e.ws (by have := he.wl; omega)).call (As := [_]) C (he.w.mono hm1) fun q m2 w10 hk hm2 _ C => ⟨_, _, _, rfl, hk, facts_nil _ _, fun w14 h14 => ?_⟩
  exact Ctr.ret (m' := m2) (L := []) { e with pq := p, wq := q } rfl rfl (C.hid0 h14).swap
theorem over_mono {m : Mem} {w : World} {F G : List Nat} (hm : m.le (m.over w F)) (hG : ∀ b, b ∈ G → b ∈ F) : (m.over w G).le (m.over w F) := fun a v e => by
  by_cases h : a.block ∈ G
  · simp only [Mem.over, if_pos h] at e
    simp only [Mem.over, if_pos (hG _ h)]; exact e
  · simp only [Mem.over, if_neg h] at e
    exact hm a v e
theorem enLend {m : Mem} {w : World} {F G : List Nat} {e : En} (h : Sat w (enP e) G) (hm : m.le (m.over w F)) (hG : ∀ b, b ∈ G → b ∈ F) (pl : e.ps.length ≤ 1000000) (wl : e.ws.length ≤ 1000000) : EnM (m.over w F) e := by
  obtain ⟨G1, G2, rfl, _, h1, h2⟩ := h
  obtain ⟨G3, G4, rfl, _, h3, h4⟩ := h2
  exact ⟨(slLend h1).mono (over_mono hm fun b hb => hG b (by simp [hb])), (slLend h3).mono (over_mono hm fun b hb => hG b (by simp [hb])), pl, wl⟩
/-- EntryRights -/
theorem l_EntryRights (w : World) (hT : Tab w) (e : En) (g : Int) (hM : EnM0 (memOf w) e) (hi : EvIn e.er) : Calls Tryd.prog 3 #[.agg e.row.toArray, .int .u8 g] w (LawR w) := by
  refine x_EntryRights _ _ _ _ _ _ _ _ _ _ _ _ _ _ _ _ _ _ _ _ _ _ _ w _ fun w1 L2 h1 g1 => ?_
  obtain ⟨C, hmm⟩ := ((lawStart w).hidL h1 g1).newShare e.row 36 (0, 0)
  have hsrc : MSrc ((memOf w).plus w1.heap.size e.row) 18 (.slice (some ⟨w1.heap.size, 0, none⟩) 1 1) 1 ([e].flatMap En.row) := by
    have : [e].flatMap En.row = e.row := by simp
    rw [this]
    exact MSrc.mk rfl (fun a ha => by injection ha with ha; subst ha; exact Mem.plus_cells _ _ _ _ _ fun j v hj => by rw [Nat.zero_add]; exact hj) (fun h => by cases h)
  refine (c_Light5 (some ⟨w1.heap.size, 0, none⟩, 1) [e]).call (As := []) C ⟨hsrc, fun e' he' => (show e' = e by simpa using he') ▸ hM.mono hmm⟩ fun b m1 w4 hk hm1 hb C => ⟨b, rfl, hk, ?_⟩
  cases b with
  | false =>
    rw [if_pos (by rfl)]
    exact c_knows C hT fun w43 hk C => ⟨_, rfl, hk, rfl, Ctx.at_ C⟩
  | true =>
    rw [if_neg (by simp)]
    obtain ⟨-, hb⟩ := hb rfl
    obtain ⟨hp, hw⟩ := hb e (by simp)
    have hM1 : EnM m1 e := ⟨(hM.p.mono hmm).mono hm1, (hM.w.mono hmm).mono hm1, by omega, by omega⟩
    refine ⟨[], facts_nil _ _, fun w7 L8 h7 g7 => ?_⟩
    refine (c_OwnE e).call (As := []) (C.hidL h7 g7) hM1 fun f m2 w10 hk hm2 hf C => ⟨_, _, _, _, _, _, _, _, _, _, _, _, _, _, _, _, _, _, _, _, _, _, rfl, hk, facts_nil _ _, ?_⟩
    refine (c_eRight f g (by rw [hf.2]; exact hi)).call (As := []) C hf.1 fun _ m3 w34 hk hm3 _ C => ⟨_, rfl, hk, facts_nil _ _, ?_⟩
    refine (c_r5Right e g hi).call (As := []) C ((hM1.mono hm2).mono hm3) fun _ m4 w37 hk hm4 _ C => ⟨_, rfl, hk, facts_nil _ _, ?_⟩
    rw [hf.2, if_pos (by simp)]
    exact c_knows C hT fun w40 hk C => ⟨_, rfl, hk, facts_nil _ _, rfl, Ctx.at_ C⟩
/-- EntryApart -/
theorem l_EntryApart (w : World) (hT : Tab w) (e : En) (hM : EnM0 (memOf w) e) (hi : EvIn e.er) (hw : ∀ x ∈ e.ws, x.val.size ≤ 281474976710656) : Calls Tryd.prog 4 #[.agg e.row.toArray] w (LawR w) := by
  refine x_EntryApart _ _ _ _ _ _ _ _ _ _ _ _ _ _ _ _ _ _ _ _ _ _ w _ fun w1 L2 h1 g1 => ?_
  obtain ⟨C, hmm⟩ := ((lawStart w).hidL h1 g1).newShare e.row 36 (0, 0)
  have hsrc : MSrc ((memOf w).plus w1.heap.size e.row) 18 (.slice (some ⟨w1.heap.size, 0, none⟩) 1 1) 1 ([e].flatMap En.row) := by
    have : [e].flatMap En.row = e.row := by simp
    rw [this]
    exact MSrc.mk rfl (fun a ha => by injection ha with ha; subst ha; exact Mem.plus_cells _ _ _ _ _ fun j v hj => by rw [Nat.zero_add]; exact hj) (fun h => by cases h)
  refine (c_Light5 (some ⟨w1.heap.size, 0, none⟩, 1) [e]).call (As := []) C ⟨hsrc, fun e' he' => (show e' = e by simpa using he') ▸ hM.mono hmm⟩ fun b m1 w4 hk hm1 hb C => ⟨b, rfl, hk, ?_⟩
  cases b with
  | false =>
    rw [if_pos (by rfl)]
    exact c_knows C hT fun w43 hk C => ⟨_, rfl, hk, rfl, Ctx.at_ C⟩
  | true =>
    rw [if_neg (by simp)]
    obtain ⟨-, hb⟩ := hb rfl
    obtain ⟨hpl, hwl⟩ := hb e (by simp)
    have hM1 : EnM m1 e := ⟨(hM.p.mono hmm).mono hm1, (hM.w.mono hmm).mono hm1, by omega, by omega⟩
    refine (c_OwnEO e).call (As := []) C hM1 fun x m2 w7 hk hm2 hx C => ⟨_, _, _, _, _, _, _, _, _, _, _, _, _, _, _, _, _, _, _, _, _, _, rfl, hk, fun w30 L31 h30 g30 => ?_⟩
    have hxp : x.ps = e.ps := congrArg Ev.ps hx
    have hxw : x.ws = e.ws := congrArg Ev.ws hx
    have px : x.ps.length ≤ 1000000 := by rw [hxp]; omega
    have pw : x.ws.length ≤ 1000000 := by rw [hxw]; omega
    have C1 : Ctx [] (memOf w) w w30 L31 m2 ([] ++ [Asn.all (enP x)]) := (C.hidL h30 g30).allI (As := [])
    refine Ctr.callL (c_eCloneO x) C1 (fun F hF hmF => enLend hF hmF (fun _ h => h) px pw) fun c w33 hk hc C => ⟨_, _, _, _, _, _, _, _, _, _, _, _, _, _, _, _, _, _, _, _, _, _, rfl, hk, fun w56 L57 h56 g56 => ?_⟩
    have hcp : c.ps = x.ps := congrArg Ev.ps hc
    have hcw : c.ws = x.ws := congrArg Ev.ws hc
    have C2 : Ctx [] (memOf w) w w56 L57 m2 (Asn.all (enP x) :: enP c) := Ctx.pm (C.hidL h56 g56) [2, 0, 1] rfl
    have C3 : Ctx [] (memOf w) w w56 L57 m2 ([] ++ [Asn.all (enP x ++ enP c)]) := Ctx.allI (As := []) (by simpa using C2.all)
    refine Ctr.callL (φ := fun _ => True) (c_eSame x c) C3 (fun F hF hmF => by
      have hF : Sat w56 (enP x ++ enP c) F := hF
      obtain ⟨F1, F2, rfl, _, k1, k2⟩ := hF.split
      exact ⟨enLend k1 hmF (fun b hb => by simp [hb]) px pw, enLend k2 hmF (fun b hb => by simp [hb]) (by rw [hcp]; exact px) (by rw [hcw]; exact pw)⟩) fun _ w59 hk _ C => ⟨_, rfl, hk, ?_⟩
    rw [if_neg (by rw [hc]; simp)]
    replace C : Ctx [] (memOf w) w w59 L57 m2 (slA (slV x.pq x.ps.length) x.ps.length (x.ps.flatMap Pt.row) 56 5 :: slA (slV x.wq x.ws.length) x.ws.length (x.ws.flatMap Wr.row) 58 3 :: enP c) := by
      have : Ctx [] (memOf w) w w59 L57 m2 (Asn.all (enP x ++ enP c) :: []) := C
      simpa [enP] using this.all
    refine ⟨fun n w' L' => ∃ (j : Nat) (l' : List Pt), n = j ∧ j ≤ x.ps.length ∧ l'.length = x.ps.length ∧ l'.drop j = x.ps.drop j ∧ Ctx [] (memOf w) w w' L' m2 (slA (slV x.pq x.ps.length) x.ps.length (l'.flatMap Pt.row) 56 5 :: slA (slV x.wq x.ws.length) x.ws.length (x.ws.flatMap Wr.row) 58 3 :: enP c), fun n _ => (x.ps.length - n).toNat, ⟨0, x.ps, rfl, by omega, rfl, rfl, C⟩, ?_⟩
    clear C
    rintro n w64 L65 _ ⟨j, l', rfl, hj, hlen, hdr, C⟩
    by_cases hjl : j < x.ps.length
    · rw [if_pos (by simpa using hjl)]
      have hjl' : j < l'.length := by omega
      have hel : l'[j] = x.ps[j] := by
        have := congrArg (fun l => l[0]?) hdr
        simp only [List.getElem?_drop, Nat.add_zero, List.getElem?_eq_getElem hjl, List.getElem?_eq_getElem hjl'] at this
        exact Option.some.inj this
      have hfl : (l'.flatMap Pt.row).length = x.ps.length * 5 := by rw [flat_len pt_len, hlen]
      have hat : ∀ i u, [Value.string l'[j].key][i]? = some u → (l'.flatMap Pt.row)[j * 5 + 2 + i]? = some u := fun i u h => by
        match i, h with
        | 0, h => rw [Nat.add_zero]; exact flat_at pt_len l' j hjl' 2 _ h
      obtain ⟨a, ha, _⟩ := C.slPut (j * 5 + 2) (Value.string (l'[j].key ++ ByteArray.mk #[OfNat.ofNat 120])) [] (by rw [hfl]; show j * 5 + 2 + 1 ≤ x.ps.length * 5; omega)
      have ha : x.pq.1 = some a := ha
      have hqa : slV x.pq x.ps.length = .slice (some a) x.ps.length x.pq.2 := by rw [← ha]
      rw [hqa] at C
      refine ⟨_, C.slFact (j * 5 + 2) _ _ hat (facts_nil _ _), by omega, by simpa using hjl, ?_⟩
      rw [ha, onSome_some]
      have hsz : l'[j].key.size ≤ 281474976710656 := by rw [hel]; exact (hi.ps _ (by show x.ps[j] ∈ e.ps; rw [← hxp]; exact List.getElem_mem hjl)).key
      refine ⟨_, by rw [Int.toNat_natCast, Addr.add_add]; exact List.mem_cons_self, by omega, by omega, by simpa using hjl, ?_⟩
      rw [onSome_some]
      intro w114 L115 h114 g114
      obtain ⟨a', ha', hsp, hth, hnl, D⟩ := (C.hidL h114 g114).slPut (j * 5 + 2) (Value.string (l'[j].key ++ ByteArray.mk #[OfNat.ofNat 120])) [] (by rw [hfl]; show j * 5 + 2 + 1 ≤ x.ps.length * 5; omega)
      obtain rfl : a = a' := Option.some.inj ha'
      have hoff : (a.add (j * 5)).off + 2 = a.off + (j * 5 + 2) := by rw [addr_off]; omega
      rw [Int.toNat_natCast, addr_block, hoff]
      have e1 : IntKind.wrap .i64 ((j : Int) + 1) = ((j + 1 : Nat) : Int) := by have := px; rw [w_i64 (by omega) (by omega)]; omega
      rw [e1]
      refine ⟨rfl, hth, hnl, rfl, rfl, rfl, ⟨j + 1, l'.set j { l'[j] with key := l'[j].key ++ ByteArray.mk #[OfNat.ofNat 120] }, rfl, hjl, by rw [List.length_set]; exact hlen, ?_, ?_⟩, Nat.le_of_eq (by show ((x.ps.length : Int) - ((j + 1 : Nat) : Int)).toNat + 1 = ((x.ps.length : Int) - (j : Int)).toNat; omega)⟩
      · rw [List.drop_set_of_lt (by omega), ← List.drop_drop, hdr, List.drop_drop]
      · rw [← flat_put pt_len (b := { l'[j] with key := l'[j].key ++ ByteArray.mk #[OfNat.ofNat 120] }) l' j hjl' (vs := [Value.string (l'[j].key ++ ByteArray.mk #[OfNat.ofNat 120])]) (o := 2) (by show 2 + 1 ≤ 5; decide) rfl, hqa]
        exact D
    · rw [if_neg (by simpa using hjl)]
      replace C : Ctx [] (memOf w) w w64 L65 m2 (slA (slV x.wq x.ws.length) x.ws.length (x.ws.flatMap Wr.row) 58 3 :: enP c) := C.drop
      clear hdr hlen hjl hj
      refine ⟨fun n w' L' => ∃ (j : Nat) (k' : List Wr), n = j ∧ j ≤ x.ws.length ∧ k'.length = x.ws.length ∧ k'.drop j = x.ws.drop j ∧ Ctx [] (memOf w) w w' L' m2 (slA (slV x.wq x.ws.length) x.ws.length (k'.flatMap Wr.row) 58 3 :: enP c), fun n _ => (x.ws.length - n).toNat, ⟨0, x.ws, rfl, by omega, rfl, rfl, C⟩, ?_⟩
      clear C
      rintro n w69 L70 _ ⟨j, k', rfl, hj, hlen, hdr, C⟩
      by_cases hjl : j < x.ws.length
      · rw [if_pos (by simpa using hjl)]
        have hjk' : j < k'.length := by omega
        have hel : k'[j] = x.ws[j] := by
          have := congrArg (fun l => l[0]?) hdr
          simp only [List.getElem?_drop, Nat.add_zero, List.getElem?_eq_getElem hjl, List.getElem?_eq_getElem hjk'] at this
          exact Option.some.inj this
        have hfl : (k'.flatMap Wr.row).length = x.ws.length * 3 := by rw [flat_len wr_len, hlen]
        have hat : ∀ i u, [Value.string k'[j].val][i]? = some u → (k'.flatMap Wr.row)[j * 3 + 1 + i]? = some u := fun i u h => by
          match i, h with
          | 0, h => rw [Nat.add_zero]; exact flat_at wr_len k' j hjk' 1 _ h
        obtain ⟨a, ha, _⟩ := C.slPut (j * 3 + 1) (Value.string (k'[j].val ++ ByteArray.mk #[OfNat.ofNat 120])) [] (by rw [hfl]; show j * 3 + 1 + 1 ≤ x.ws.length * 3; omega)
        have ha : x.wq.1 = some a := ha
        have hqa : slV x.wq x.ws.length = .slice (some a) x.ws.length x.wq.2 := by rw [← ha]
        rw [hqa] at C
        refine ⟨_, C.slFact (j * 3 + 1) _ _ hat (facts_nil _ _), by omega, by simpa using hjl, ?_⟩
        rw [ha, onSome_some]
        have hsz : k'[j].val.size ≤ 281474976710656 := by rw [hel]; exact hw _ (by rw [← hxw]; exact List.getElem_mem hjl)
        refine ⟨_, by rw [Int.toNat_natCast, Addr.add_add]; exact List.mem_cons_self, by omega, by omega, by simpa using hjl, ?_⟩
        rw [onSome_some]
        intro w108 L109 h108 g108
        obtain ⟨a', ha', hsp, hth, hnl, D⟩ := (C.hidL h108 g108).slPut (j * 3 + 1) (Value.string (k'[j].val ++ ByteArray.mk #[OfNat.ofNat 120])) [] (by rw [hfl]; show j * 3 + 1 + 1 ≤ x.ws.length * 3; omega)
        obtain rfl : a = a' := Option.some.inj ha'
        have hoff : (a.add (j * 3)).off + 1 = a.off + (j * 3 + 1) := by rw [addr_off]; omega
        rw [Int.toNat_natCast, addr_block, hoff]
        have e1 : IntKind.wrap .i64 ((j : Int) + 1) = ((j + 1 : Nat) : Int) := by have := pw; rw [w_i64 (by omega) (by omega)]; omega
        rw [e1]
        refine ⟨rfl, hth, hnl, rfl, rfl, rfl, ⟨j + 1, k'.set j { k'[j] with val := k'[j].val ++ ByteArray.mk #[OfNat.ofNat 120] }, rfl, hjl, by rw [List.length_set]; exact hlen, ?_, ?_⟩, Nat.le_of_eq (by show ((x.ws.length : Int) - ((j + 1 : Nat) : Int)).toNat + 1 = ((x.ws.length : Int) - (j : Int)).toNat; omega)⟩
        · rw [List.drop_set_of_lt (by omega), ← List.drop_drop, hdr, List.drop_drop]
        · rw [← flat_put wr_len (b := { k'[j] with val := k'[j].val ++ ByteArray.mk #[OfNat.ofNat 120] }) k' j hjk' (vs := [Value.string (k'[j].val ++ ByteArray.mk #[OfNat.ofNat 120])]) (o := 1) (by show 1 + 1 ≤ 3; decide) rfl, hqa]
          exact D
      · rw [if_neg (by simpa using hjl)]
        refine ⟨[], facts_nil _ _, fun w72 L73 h72 g72 => ?_⟩
        obtain ⟨m3, hm3, hs3, C⟩ := (C.hidL h72 g72).drop.slShare
        obtain ⟨m4, hm4, hs4, C⟩ := C.slShare
        have hMc : EnM m4 c := ⟨hs3.mono hm4, hs4, by rw [hcp]; exact px, by rw [hcw]; exact pw⟩
        refine (c_Ref5 c).call (As := []) C hMc fun f m5 w75 hk hm5 hf C => ⟨_, _, _, _, _, _, _, _, _, _, _, _, _, _, _, _, _, _, _, _, _, _, rfl, hk, facts_nil _ _, ?_⟩
        refine (c_r5Same f e).call (As := []) C ⟨hf.1, (((hM1.mono hm2).mono hm3).mono hm4).mono hm5⟩ fun _ m6 w99 hk hm6 _ C => ⟨_, rfl, hk, facts_nil _ _, ?_⟩
        have hfe : f.er = e.er := by rw [hf.2, hc, hx]
        rw [hfe, if_pos (by simp)]
        exact c_knows C hT fun w102 hk C => ⟨_, rfl, hk, facts_nil _ _, rfl, Ctx.at_ C⟩
end Go.Proofs
