import Derived.Test.YtpijekgiblcfhaaU14n
import Derived.Test.YtpijekgiblcfhaaU14aac
import Derived.Test.YtpijekgiblcfhaaU14agi
import Derived.Test.YtpijekgiblcfhaaV14m2
set_option linter.unusedVariables false
set_option linter.unusedSimpArgs false
set_option maxRecDepth 10000
namespace Go.Proofs
open Go X RowKit
/-- the document's Res -/
def resR (r : Rt) (d : I) : Value × Bool := match rfnd r.L d with
  | some x => if x.ended then (.agg #[.int .u8 x.code, .string x.val], true) else (.agg #[.int .u8 0, .string (ByteArray.mk #[])], false)
  | none => (.agg #[.int .u8 0, .string (ByteArray.mk #[])], false)
theorem c_rRes (b : Nat) (r : Rt) (d : I) (hd : d.In) (hr : r.Ok) : Ctr Try.prog 29 #[.pointer (some ⟨b, 0, none⟩), d.V] noMem [rtA b r] (fun _ : Unit => .tuple #[(resR r d).1, .bool (resR r d).2]) (fun _ _ => True) (fun _ => [rtA b r]) := by
  refine Ctr.mk fun w F m C _ => x_rRes _ _ _ _ _ _ _ _ _ _ _ w _ fun w1 L2 h1 g1 => ?_
  refine (c_rfind b r d hd hr).call (C.hidL h1 g1) trivial fun _ m1 w4 hk hm _ C => ⟨_, _, rfl, hk, ?_⟩
  cases hf : rfnd r.L d with
  | none =>
    rw [if_neg (by simp)]
    intro w7 h7
    exact Ctr.ret () (by simp only [resR, hf]) trivial (C.hid0 h7)
  | some x =>
    obtain ⟨hkl, e1, e2⟩ := rfnd_some hf
    rw [if_pos (by simp)]
    obtain ⟨p, q, C⟩ := rtO C
    have hpa := C.blkCell (j := 1) (v := slV p r.L.length) rfl
    have hbl := C.blkAt.2
    obtain ⟨pa, hp, hc, hcl⟩ := sl_elem rw_len (by omega) (C.pm [1, 0, 2] rfl) hkl
    rw [e1] at hc
    refine ⟨p.1, r.L.length, p.2, by simpa [Addr.add_mid] using hpa, hbl, by omega, by omega, ?_⟩
    rw [hp, onSome_some]
    refine ⟨x.ended, by have := hc 10 (.bool x.ended) rfl; exact this, hcl, ?_⟩
    cases he : x.ended with
    | false =>
      rw [if_pos (by simp)]
      intro w20 h20
      exact Ctr.ret () (by simp [resR, hf, he]) trivial (rtI p q (C.hid0 h20))
    | true =>
      rw [if_neg (by simp)]
      refine ⟨p.1, r.L.length, p.2, by simpa [Addr.add_mid] using hpa, hbl, by omega, by omega, ?_⟩
      rw [hp, onSome_some]
      refine ⟨x.code, x.val, fun j v h => ?_, hcl, fun w19 h19 => ?_⟩
      · have : x.row[11 + j]? = some v := by
          match j, h with
          | 0, h | 1, h => exact h
          | j + 2, h => simp at h
        rw [Addr.add_add]
        have h2 := hc (11 + j) v this
        rw [Addr.add_add] at h2
        rw [Addr.add_add]
        simpa [Nat.add_assoc] using h2
      · exact Ctr.ret () (by simp [resR, hf, he]) trivial (rtI p q (C.hid0 h19))
end Go.Proofs
namespace Go.Proofs
open Go X RowKit
theorem c_RefProc (n l : Int) : Gives Try.prog 71 #[PV n l] (PV n l) := fun w => x_gemotlaw02_RefProc n l w _ fun w1 h1 => ⟨rfl, hid_below h1 (by simp) (Nat.le_refl _)⟩

theorem c_RefID (x : I) : Gives Try.prog 56 #[x.V] x.V := by
  intro w
  refine x_gemotlaw02_RefID _ _ _ _ _ _ _ _ _ _ w _ ⟨[], facts_nil _ _, ?_, ?_⟩
  all_goals
    intro w2 L h1 h2
    have A := at_start h1 h2
    refine (c_RefProc x.n x.l).call fun w5 h5 => ⟨_, _, rfl, at_kept A h5, facts_nil _ _, [], facts_nil _ _, [], facts_nil _ _, [], facts_nil _ _, fun w11 h11 => ⟨rfl, ?_⟩⟩
    exact at_end (at_call A (Nat.le_refl _) h5) (Nat.le_refl _) h11

theorem c_RefRes (c : Int) (v : ByteArray) : Gives Try.prog 30 #[.agg #[.int .u8 c, .string v]] (.agg #[.int .u8 c, .string v]) := fun w => x_gemotlaw03_RefRes c v w _ fun w1 h1 => ⟨rfl, at_end (at_same w) (Nat.le_refl _) h1⟩
theorem id_row (x : Rw) {o : Nat} {v : Value} (h : x.id.row[o]? = some v) : x.row[0 + o]? = some v := by
  rw [Nat.zero_add]; exact rw_id h
/-- the rows of both tables, where they are the same -/
theorem c_rows (q : Option Addr) (c : Nat) (p : Sl) (rs : List Rw) (hl : rs.length ≤ 100000) :
    Ctr Try.prog 35 #[.slice q rs.length c, .slice p.1 rs.length p.2] noMem [slA (.slice q rs.length c) rs.length (rs.flatMap rC) 60 13, rwsA p rs] (fun _ : Unit => .bool true) (fun _ _ => True)
      (fun _ => [slA (.slice q rs.length c) rs.length (rs.flatMap rC) 60 13, rwsA p rs]) := by
  refine Ctr.mk fun w F m C _ => x_gemotlaw14_rows _ _ _ _ _ _ w _ ?_
  rw [if_neg (by simp)]
  refine ⟨fun n w' L' => ∃ (j : Nat) (m' : Mem), n = j ∧ j ≤ rs.length ∧ Ctx F m w w' [] m' [slA (.slice q rs.length c) rs.length (rs.flatMap rC) 60 13, rwsA p rs], fun n _ => (rs.length - n).toNat, ⟨0, m, rfl, by omega, C⟩, ?_⟩
  clear C
  rintro n w4 L5 _ ⟨j, m', rfl, hj, C⟩
  by_cases hjl : j < rs.length
  rotate_left
  · rw [if_neg (by simpa using hjl)]
    exact Ctr.ret () rfl trivial C
  rw [if_pos (by simpa using hjl)]
  obtain ⟨pa, hp, -, -⟩ := sl_elem (p := (q, c)) rC_len (by omega) C hjl
  obtain ⟨pb, hp2, -, -⟩ := sl_elem rw_len (by omega) C.swap hjl
  simp only at hp
  subst hp
  obtain ⟨pq, pc⟩ := p
  simp only at hp2
  subst hp2
  have f60 : ∀ (o : Nat) (v : Value) (vs : List Value), (∀ k u, (v :: vs)[k]? = some u → rs[j].row[o + k]? = some u) → ∀ k u, (v :: vs)[k]? = some u → (rs.flatMap rC)[(j * 13 + o) + k]? = some u := fun o v vs h k u hk => by
    rw [Nat.add_assoc]; exact flat_at rC_len rs j hjl (o + k) u (h k u hk)
  have f94 : ∀ (o : Nat) (v : Value) (vs : List Value), (∀ k u, (v :: vs)[k]? = some u → rs[j].row[o + k]? = some u) → ∀ k u, (v :: vs)[k]? = some u → (rs.flatMap Rw.row)[(j * 13 + o) + k]? = some u := fun o v vs h k u hk => by
    rw [Nat.add_assoc]; exact flat_at rw_len rs j hjl (o + k) u (h k u hk)
  have hid : ∀ k u, rs[j].id.row[k]? = some u → rs[j].row[0 + k]? = some u := fun k u h => id_row _ h
  have hb : ∀ k u, [Value.bool rs[j].ended][k]? = some u → rs[j].row[10 + k]? = some u := fun k u h => by
    match k, h with
    | 0, h => exact h
    | k + 1, h => simp at h
  have hc : ∀ k u, [Value.int .u8 rs[j].code, .string rs[j].val][k]? = some u → rs[j].row[11 + k]? = some u := fun k u h => by
    match k, h with
    | 0, h | 1, h => exact h
    | k + 2, h => simp at h
  have hF : ∀ {w' L' m''}, Ctx F m w w' L' m'' [slA (.slice (some pa) rs.length c) rs.length (rs.flatMap rC) 60 13, rwsA (some pb, pc) rs] →
      FactsW [(pa.add (j * 13 + 0), rs[j].id.row), (pa.add (j * 13 + 10), [.bool rs[j].ended]), (pa.add (j * 13 + 11), [.int .u8 rs[j].code, .string rs[j].val]),
        (pb.add (j * 13 + 0), rs[j].id.row), (pb.add (j * 13 + 10), [.bool rs[j].ended]), (pb.add (j * 13 + 11), [.int .u8 rs[j].code, .string rs[j].val])] w' L' := fun C =>
    C.slFact _ _ _ (f60 0 _ _ hid) (C.slFact _ _ _ (f60 10 _ _ hb) (C.slFact _ _ _ (f60 11 _ _ hc)
      (C.swap.slFact _ _ _ (f94 0 _ _ hid) (C.swap.slFact _ _ _ (f94 10 _ _ hb) (C.swap.slFact _ _ _ (f94 11 _ _ hc) (facts_nil _ _))))))
  refine ⟨_, hF C, by omega, by simpa using hjl, ?_⟩
  rw [onSome_some]
  refine ⟨_, _, _, _, _, _, _, _, _, _, by rw [Addr.add_add]; exact List.mem_cons_self, by omega, by simpa using hjl, ?_⟩
  rw [onSome_some]
  refine ⟨_, _, _, _, _, _, _, _, _, _, by rw [Addr.add_add]; exact List.mem_cons_of_mem _ (List.mem_cons_of_mem _ (List.mem_cons_of_mem _ List.mem_cons_self)), fun w29 h29 => ?_⟩
  replace C := C.hid0 h29
  refine C.gives (c_RefID rs[j].id) fun w31 k31 C => ⟨_, _, _, _, _, _, _, _, _, _, rfl, k31.size, hF C, _, hF C, fun x h => h, ?_⟩
  rw [if_pos (by simp)]
  refine ⟨by omega, by simpa using hjl, ?_⟩
  rw [onSome_some]
  refine ⟨_, by rw [Addr.add_add]; exact List.mem_cons_of_mem _ List.mem_cons_self, by omega, by simpa using hjl, ?_⟩
  rw [onSome_some]
  refine ⟨_, by rw [Addr.add_add]; exact List.mem_cons_of_mem _ (List.mem_cons_of_mem _ (List.mem_cons_of_mem _ (List.mem_cons_of_mem _ List.mem_cons_self))), ?_⟩
  rw [if_pos (by simp)]
  refine ⟨by omega, by simpa using hjl, ?_⟩
  rw [onSome_some]
  refine ⟨_, _, by rw [Addr.add_add]; exact List.mem_cons_of_mem _ (List.mem_cons_of_mem _ List.mem_cons_self), by omega, by simpa using hjl, ?_⟩
  rw [onSome_some]
  refine ⟨_, _, by rw [Addr.add_add]; exact List.mem_cons_of_mem _ (List.mem_cons_of_mem _ (List.mem_cons_of_mem _ (List.mem_cons_of_mem _ (List.mem_cons_of_mem _ List.mem_cons_self)))), ?_⟩
  refine C.gives (c_RefRes _ _) fun w57 k57 C => ⟨_, _, rfl, k57.size, hF C, ?_⟩
  have hv : (rs[j].val == rs[j].val) = true := (ba_eq _ _).2 rfl
  rw [if_neg (by rw [hv]; simp)]
  have e2 : IntKind.wrap .i64 ((j : Int) + 1) = ((j + 1 : Nat) : Int) := by rw [w_i64 (by omega) (by omega)]; omega
  rw [e2]
  exact ⟨⟨j + 1, m', rfl, hjl, C⟩, Nat.le_of_eq (by show ((rs.length : Int) - ((j + 1 : Nat) : Int)).toNat + 1 = ((rs.length : Int) - (j : Int)).toNat; omega)⟩
end Go.Proofs
namespace Go.Proofs
open Go X RowKit
theorem Rel.tab {t : Tb} {r : Rt} (h : Rel t r) : TabI t.R := fun p hp => by
  obtain ⟨x, hx, e⟩ := List.mem_map.1 (h.R.mem_iff.1 hp)
  subst e
  exact ⟨h.idin x hx, rfl⟩
theorem Rel.rows {t : Tb} {r : Rt} (h : Rel t r) {rs : List Rw} (hA : AllOf t.R rs) : rs = r.L := by
  refine sorted_perm (hA.perm.trans ?_) hA.sorted h.srt
  have := h.R.map Prod.snd
  rw [List.map_map] at this
  simpa [kv, Function.comp_def] using this
theorem Rel.res {t : Tb} {r : Rt} (h : Rel t r) {d : I} (hd : d.In) :
    (if stateF t d = 2 then Value.tuple #[.agg #[.int .u8 ((fnd d t.R).getD (Rw.fresh I.zero)).code, .string ((fnd d t.R).getD (Rw.fresh I.zero)).val], .bool true] else .tuple #[.agg #[.int .u8 0, .string (ByteArray.mk #[])], .bool false]) = .tuple #[(resR r d).1, .bool (resR r d).2] := by
  rw [h.state hd, h.find]
  unfold stateR resR
  cases hf : rfnd r.L d with
  | none => simp only; rw [if_neg (by split <;> (try split) <;> omega)]
  | some x => cases he : x.ended <;> simp [he]
theorem resR_v (r : Rt) (d : I) : ∃ (c : Int) (v : ByteArray), (resR r d).1 = .agg #[.int .u8 c, .string v] := by
  unfold resR; split
  · split <;> exact ⟨_, _, rfl⟩
  · exact ⟨_, _, rfl⟩
theorem l_AmoPlays (w : World) (a : Int) (q : Option Addr) (c : Nat) (l : List Ac) (hl : ∀ x ∈ l, x.d.In) (hs : MSrc (memOf w) 14 (.slice q l.length c) l.length (l.flatMap Ac.row)) :
    Calls Try.prog 6 #[.int .i64 a, .slice q l.length c] w (LawR w) := by
  refine x_gemotlaw14_AmoPlays _ _ _ _ w _ ?_
  have C := lawStart w
  refine (c_light l q c).call C hs fun v m1 w2 hk hm1 _ C => ⟨_, rfl, hk.size, ?_⟩
  obtain ⟨v, hv⟩ := v
  cases v with
  | false =>
    rw [if_neg (by simp)]
    refine c_knows.call (As := []) C trivial fun _ m2 w5 hk hm _ C => ⟨true, rfl, hk.size, rfl, C.at_⟩
  | true =>
  rw [if_pos (by simp)]
  have h100 := hv rfl
  refine c_knows.call (As := []) C trivial fun _ m2 w8 hk hm2 _ C => ⟨true, rfl, hk.size, ?_⟩
  rw [if_neg (by simp)]
  refine (c_New a).call (As := []) C trivial fun b m3 w11 hk hm3 _ C => ⟨_, rfl, hk.size, ?_⟩
  refine (c_rNew a).call (As := [tbA b (tb0 a)]) C trivial fun br m4 w14 hk hm4 _ C => ⟨_, rfl, hk.size, ?_⟩
  replace C : Ctx [] (memOf w) w w14 [] m4 [rtA br (r0 a), tbA b (tb0 a)] := C
  replace hs := (((hs.mono hm1).mono hm2).mono hm3).mono hm4
  clear hm1 hm2 hm3 hm4 hk hv
  refine ⟨fun q n w' L' => ∃ (i b : Nat) (t : Tb) (r : Rt) (m : Mem), q = some ⟨b, 0, none⟩ ∧ n = i ∧ i ≤ l.length ∧ Rel t r ∧ r.L.length ≤ i ∧ r.F.length ≤ i ∧ m4.le m ∧ Ctx [] (memOf w) w w' [] m [tbA b t, rtA br r], fun _ n _ => (l.length - n).toNat,
    ⟨0, b, tb0 a, r0 a, m4, rfl, rfl, by omega, rel0 a, Nat.le_refl _, Nat.le_refl _, Mem.le_refl _, C.swap⟩, ?_⟩
  clear C
  rintro qx n w20 L21 _ ⟨i, b, t, r, m, rfl, rfl, hi, hR, hLl, hFl, hmm, D⟩
  by_cases hlt : i < l.length
  rotate_left
  · rw [if_neg (by simpa using hlt)]
    exact ⟨rfl, D.at_⟩
  rw [if_pos (by simpa using hlt)]
  have e : IntKind.wrap .i64 ((i : Int) + 1) = ((i + 1 : Nat) : Int) := by rw [w_i64 (by omega) (by omega)]; omega
  have hmeas : Nat.le (((l.length : Int) - ((i + 1 : Nat) : Int)).toNat + 1) ((l.length : Int) - (i : Int)).toNat := Nat.le_of_eq (by omega)
  have hi1 : (0 : Int) ≤ (i : Int) := by omega
  have hi2 : (i : Int) < ((l.length : Nat) : Int) := by omega
  refine ⟨hi1, hi2, ?_⟩
  obtain ⟨pa, rfl, hcell⟩ := (hs.mono hmm).elem ac_len hlt
  rw [onSome_some]
  have hd := hl _ (List.getElem_mem hlt)
  obtain ⟨hR2, hL2, hF2⟩ := hR.act l[i] hd
  have hok : r.Ok := hR.ok 100 (by omega) (by omega) (by omega)
  generalize l[i] = A at hcell hd hR2 hL2 hF2
  obtain ⟨kd, d, cc, vv, nn⟩ := A
  simp only at hd
  have hidc : MCells m ((pa.add (i * 14)).add 1) d.row := fun j v hv => by
    have h2 := hcell (1 + j) v (ac_d2 hv)
    rw [Addr.add_add]; exact h2
  have hpc : MCells m ((pa.add (i * 14)).add 1) [.int .u8 d.n, .int .u16 d.l] := fun j v hv => by
    match j, hv with
    | 0, hv => exact hidc 0 v hv
    | 1, hv => exact hidc 1 v hv
    | j + 2, hv => simp at hv
  have hcv : MCells m ((pa.add (i * 14)).add 11) [.int .u8 cc, .string vv] := fun j v hv => by
    rw [Addr.add_add]
    match j, hv with
    | 0, hv => exact hcell 11 v hv
    | 1, hv => exact hcell 12 v hv
    | j + 2, hv => simp at hv
  have hnn : MCells m ((pa.add (i * 14)).add 13) [.int .u32 nn] := fun j v hv => by
    rw [Addr.add_add]
    match j, hv with
    | 0, hv => exact hcell 13 v hv
    | j + 1, hv => simp at hv
  have hF : ∀ {w' L' m'} {As : List Asn}, m.le m' → Ctx [] (memOf w) w w' L' m' As → FactsW [((pa.add (i * 14)).add 1, d.row), ((pa.add (i * 14)).add 1, [.int .u8 d.n, .int .u16 d.l]), ((pa.add (i * 14)).add 11, [.int .u8 cc, .string vv]), ((pa.add (i * 14)).add 13, [.int .u32 nn])] w' L' := fun h D =>
    D.memFact (hidc.mono h) (D.memFact (hpc.mono h) (D.memFact (hcv.mono h) (D.memFact (hnn.mono h) (facts_nil _ _))))
  refine ⟨_, _, _, _, _, _, _, _, _, _, D.cells hidc, ?_⟩
  refine D.gives (c_ID d) fun w34 k34 D => ⟨_, _, _, _, _, _, _, _, _, _, rfl, k34.size, hi1, hi2, ?_⟩
  rw [onSome_some]
  refine ⟨kd, by have := D.cells hcell 0 (.int .i64 kd) rfl; exact this, ?_⟩
  refine ⟨fun q ok w' L' => ∃ (b' : Nat) (t' : Tb) (m' : Mem), q = some ⟨b', 0, none⟩ ∧ ok = true ∧ Rel t' (playR r ⟨kd, d, cc, vv, nn⟩) ∧ m.le m' ∧ Ctx [] (memOf w) w w' L' m' [tbA b' t', rtA br (playR r ⟨kd, d, cc, vv, nn⟩)], ?_, ?_⟩
  · by_cases hB : kd = 0 ∨ kd = 1 ∨ kd = 2
    · have hk1 : playR r ⟨kd, d, cc, vv, nn⟩ = (beginR r d).2 := by rw [playR, if_pos hB]
      rw [hk1]
      have hb := hR.begin hd
      clear hR2 hL2 hF2 hk1 hs hl
      rcases hB with rfl | rfl | rfl
      all_goals
        repeat (first | rw [if_pos (by decide)] | rw [if_neg (by decide)])
        refine ⟨_, hF (Mem.le_refl _) D, hi1, hi2, ?_⟩
        rw [onSome_some]
        refine ⟨_, _, _, _, _, _, _, _, _, _, List.mem_cons_self, fun w430 L431 h430 g430 => ?_⟩
        refine (c_Begin b t d hd).call (As := [rtA br r]) (D.hidL h430 g430) trivial fun _ m5 w433 hk1 hm5 _ D => ⟨_, rfl, hk1, hF hm5 D, ?_⟩
        refine D.gives (c_num _) fun w436 k436 D => ⟨_, rfl, k436, hF hm5 D, ?_⟩
        refine (c_rBegin br r d hd hok).call (As := [tbA b (beginF t d).2]) D.swap trivial fun _ m6 w439 hk2 hm6 _ D => ⟨_, rfl, hk2, hF (hm5.le_trans hm6) D, rfl, ?_⟩
        exact ⟨b, _, m6, rfl, by rw [hb.1]; simp, hb.2.1, hm5.le_trans hm6, D.swap⟩
    · by_cases hE : kd = 3 ∨ kd = 4
      · have hk1 : playR r ⟨kd, d, cc, vv, nn⟩ = (endR r d cc vv).2 := by rw [playR, if_neg hB, if_pos hE]
        rw [hk1]
        have hb := hR.end (d := d) cc vv
        clear hR2 hL2 hF2 hk1 hs hl hB
        rcases hE with rfl | rfl
        all_goals
          repeat (first | rw [if_pos (by decide)] | rw [if_neg (by decide)])
          refine ⟨_, hF (Mem.le_refl _) D, hi1, hi2, ?_⟩
          rw [onSome_some]
          refine ⟨_, _, List.mem_cons_of_mem _ (List.mem_cons_of_mem _ List.mem_cons_self), hi1, hi2, ?_⟩
          rw [onSome_some]
          refine ⟨_, _, _, _, _, _, _, _, _, _, List.mem_cons_self, hi1, hi2, ?_⟩
          rw [onSome_some]
          refine ⟨_, _, List.mem_cons_of_mem _ (List.mem_cons_of_mem _ List.mem_cons_self), fun w430 L431 h430 g430 => ?_⟩
          refine (D.hidL h430 g430).gives (c_Res cc vv) fun w2 k2 D => ⟨_, _, rfl, k2, hF (Mem.le_refl _) D, ?_⟩
          refine (c_End b t d cc vv).call (As := [rtA br r]) D trivial fun _ m5 w433 hk1 hm5 _ D => ⟨_, rfl, hk1, hF hm5 D, ?_⟩
          refine (c_rEnd br r d cc vv hd hok).call (As := [tbA b (endF t d cc vv).2]) D.swap trivial fun _ m6 w439 hk2 hm6 _ D => ⟨_, rfl, hk2, hF (hm5.le_trans hm6) D, rfl, ?_⟩
          exact ⟨b, _, m6, rfl, by rw [hb.1]; simp, hb.2.1, hm5.le_trans hm6, D.swap⟩
      · have h0 : kd ≠ 0 := fun e => hB (by omega)
        have h1 : kd ≠ 1 := fun e => hB (by omega)
        have h2 : kd ≠ 2 := fun e => hB (by omega)
        have h3 : kd ≠ 3 := fun e => hE (by omega)
        have h4 : kd ≠ 4 := fun e => hE (by omega)
        rw [if_neg (by simpa using h0), if_neg (by simpa using h1), if_neg (by simpa using h2), if_neg (by simpa using h3), if_neg (by simpa using h4)]
        by_cases h5 : kd = 5
        · have hk1 : playR r ⟨kd, d, cc, vv, nn⟩ = raiseR r (d.n, d.l) nn := by rw [playR, if_neg hB, if_neg hE, if_pos h5]
          rw [hk1]
          have hb := hR.raise (d.n, d.l) nn
          rw [if_pos (by simpa using h5)]
          refine ⟨_, hF (Mem.le_refl _) D, hi1, hi2, ?_⟩
          rw [onSome_some]
          refine ⟨_, List.mem_cons_of_mem _ (List.mem_cons_of_mem _ (List.mem_cons_of_mem _ List.mem_cons_self)), fun w430 L431 h430 g430 => ?_⟩
          refine (c_Raise b t (d.n, d.l) nn).call (As := [rtA br r]) (D.hidL h430 g430) trivial fun _ m5 w433 hk1 hm5 _ D => ⟨rfl, hk1, _, hF hm5 D, hi1, hi2, ?_⟩
          rw [onSome_some]
          refine ⟨_, _, List.mem_cons_of_mem _ List.mem_cons_self, hi1, hi2, ?_⟩
          rw [onSome_some]
          refine ⟨_, List.mem_cons_of_mem _ (List.mem_cons_of_mem _ (List.mem_cons_of_mem _ List.mem_cons_self)), fun w384 L385 h384 g384 => ?_⟩
          refine (c_rRaise br r (d.n, d.l) nn hok (by omega)).call (As := [tbA b (raiseF t (d.n, d.l) nn)]) (D.hidL h384 g384).swap trivial fun _ m6 w439 hk2 hm6 _ D => ⟨rfl, hk2, rfl, ?_⟩
          exact ⟨b, _, m6, rfl, rfl, hb.1, hm5.le_trans hm6, D.swap⟩
        · have hk1 : playR r ⟨kd, d, cc, vv, nn⟩ = r := by rw [playR, if_neg hB, if_neg hE, if_neg h5]
          rw [hk1, if_neg (by simpa using h5)]
          by_cases h6 : kd = 6
          · rw [if_pos (by simpa using h6)]
            intro w366 L367 h366 g366
            refine (c_Clone b t).call (As := [rtA br r]) (D.hidL h366 g366) trivial fun b' m5 w369 hk1 hm5 _ D => ⟨_, rfl, hk1, rfl, ?_⟩
            exact ⟨b', t, m5, rfl, rfl, hR, hm5, D.drop⟩
          · rw [if_neg (by simpa using h6)]
            intro w364 L365 h364 g364
            exact ⟨rfl, b, t, m, rfl, rfl, hR, Mem.le_refl _, D.hidL h364 g364⟩
  · clear D hR
    generalize playR r ⟨kd, d, cc, vv, nn⟩ = r' at hR2 hL2 hF2
    rintro qx ok w443 L444 _ ⟨b, t', m', rfl, rfl, hR, hmm', D⟩
    have hok : r'.Ok := hR.ok 101 (by omega) (by omega) (by omega)
    have hF : ∀ {w' L' m''} {As : List Asn}, m'.le m'' → Ctx [] (memOf w) w w' L' m'' As → FactsW [((pa.add (i * 14)).add 1, d.row), ((pa.add (i * 14)).add 1, [.int .u8 d.n, .int .u16 d.l])] w' L' := fun h D =>
      D.memFact ((hidc.mono hmm').mono h) (D.memFact ((hpc.mono hmm').mono h) (facts_nil _ _))
    obtain ⟨rc, rv, hrv⟩ := resR_v r' d
    refine (c_Res_ b t' d).call (As := [rtA br r']) D trivial fun _ m5 w446 hk hm5 _ D => ⟨rc, rv, (resR r' d).2, by rw [hR.res hd, hrv], hk, hi1, hi2, ?_⟩
    rw [onSome_some]
    refine ⟨_, _, _, _, _, _, _, _, _, _, D.cells ((hidc.mono hmm').mono hm5), fun hm => D.cellsL ((hidc.mono hmm').mono hm5) (by rw [addr_block]; exact hm), fun w461 L462 h461 g461 => ?_⟩
    refine (c_rRes br r' d hd hok).call (As := [tbA b t']) (D.hidL h461 g461).swap trivial fun _ m6 w464 hk hm6 _ D => ⟨rc, rv, (resR r' d).2, by rw [hrv], hk, _, hF (hm5.le_trans hm6) D, ?_⟩
    rw [if_pos (by simp)]
    intro w487 L488 h487 g487
    refine (D.hidL h487 g487).gives (c_RefRes rc rv) fun w490 k490 D => ⟨_, _, rfl, k490, hF (hm5.le_trans hm6) D, _, hF (hm5.le_trans hm6) D, fun x h => h, ?_⟩
    have hvv : (rv == rv) = true := (ba_eq _ _).2 rfl
    rw [if_pos (by rw [hvv]; simp)]
    refine ⟨hi1, hi2, ?_⟩
    rw [onSome_some]
    refine ⟨_, _, _, _, _, _, _, _, _, _, List.mem_cons_self, ?_⟩
    have h6 := hm5.le_trans hm6
    refine (c_State b t' d).call (As := [rtA br r']) D.swap trivial fun _ m7 w521 hk hm7 _ D => ⟨_, rfl, hk, hF (h6.le_trans hm7) D, _, hF (h6.le_trans hm7) D, fun x h => h, ?_⟩
    have h7 := h6.le_trans hm7
    refine (c_rState br r' d hd hok).call (As := [tbA b t']) D.swap trivial fun _ m8 w526 hk hm8 _ D => ⟨_, rfl, hk, hF (h7.le_trans hm8) D, _, hF (h7.le_trans hm8) D, fun x h => h, ?_⟩
    have h8 := h7.le_trans hm8
    rw [hR.state hd, if_pos (by simp)]
    refine ⟨hi1, hi2, ?_⟩
    rw [onSome_some]
    refine ⟨_, _, List.mem_cons_of_mem _ List.mem_cons_self, ?_⟩
    refine (c_Floor b t' (d.n, d.l)).call (As := [rtA br r']) D.swap trivial fun _ m9 w544 hk hm9 _ D => ⟨_, rfl, hk, hF (h8.le_trans hm9) D, _, hF (h8.le_trans hm9) D, fun x h => h, ?_⟩
    have h9 := h8.le_trans hm9
    refine (c_rFloor br r' (d.n, d.l) hok).call (As := [tbA b t']) D.swap trivial fun _ m10 w549 hk hm10 _ D => ⟨_, rfl, hk, hF (h9.le_trans hm10) D, ?_⟩
    have h10 := h9.le_trans hm10
    obtain ⟨p, q, D⟩ := rtO D
    replace D : Ctx [] (memOf w) w w549 L488 m10 [blk br (r'.cells p q) 82, rwsA p r'.L, frsA q r'.F, tbA b t'] := D
    have hG : ∀ {w' L' m''} {As : List Asn}, m'.le m'' → Ctx [] (memOf w) w w' L' m'' (blk br (r'.cells p q) 82 :: As) →
        FactsW [(⟨br, 1, none⟩, [slV p r'.L.length]), ((pa.add (i * 14)).add 1, d.row), ((pa.add (i * 14)).add 1, [.int .u8 d.n, .int .u16 d.l])] w' L' := fun h D => D.blkFact1 1 _ rfl (hF h D)
    refine ⟨_, hG h10 D, fun x h => List.mem_cons_of_mem _ h, ?_⟩
    rw [hR.floor, if_pos (by simp)]
    rw [onSome_some]
    refine ⟨p.1, r'.L.length, p.2, List.mem_cons_self, ?_⟩
    refine (c_Len b t').call (As := [blk br (r'.cells p q) 82, rwsA p r'.L, frsA q r'.F]) (D.pm [3, 0, 1, 2] rfl) trivial fun _ m11 w564 hk hm11 _ D => ?_
    have h11 := h10.le_trans hm11
    replace D : Ctx [] (memOf w) w w564 L488 m11 [tbA b t', blk br (r'.cells p q) 82, rwsA p r'.L, frsA q r'.F] := D
    refine ⟨_, rfl, hk, hG h11 D.swap, _, hG h11 D.swap, fun x h => h, ?_⟩
    have hlen : t'.R.length = r'.L.length := by have := hR.R.length_eq; simpa using this
    rw [hlen, if_pos (by simp)]
    rw [onSome_some]
    refine ⟨p.1, r'.L.length, p.2, List.mem_cons_self, ?_⟩
    refine (c_All b t' hR.tab (by omega)).call (As := [blk br (r'.cells p q) 82, rwsA p r'.L, frsA q r'.F]) D trivial fun y m12 w573 hk hm12 hA D => ?_
    obtain ⟨⟨q2, c2⟩, rs⟩ := y
    replace hA : AllOf t'.R rs := hA
    obtain rfl := hR.rows hA
    have h12 := h11.le_trans hm12
    replace D : Ctx [] (memOf w) w w573 L488 m12 [slA (.slice q2 r'.L.length c2) r'.L.length (r'.L.flatMap rC) 60 13, tbA b t', blk br (r'.cells p q) 82, rwsA p r'.L, frsA q r'.F] := D
    refine ⟨_, _, _, rfl, hk, hG h12 (D.pm [2, 0, 1, 3, 4] rfl), ?_⟩
    refine (c_rows q2 c2 p r'.L (by omega)).call (As := [tbA b t', blk br (r'.cells p q) 82, frsA q r'.F]) (D.pm [0, 3, 1, 2, 4] rfl) trivial fun _ m13 w578 hk hm13 _ D => ?_
    replace D : Ctx [] (memOf w) w w578 L488 m13 [slA (.slice q2 r'.L.length c2) r'.L.length (r'.L.flatMap rC) 60 13, rwsA p r'.L, tbA b t', blk br (r'.cells p q) 82, frsA q r'.F] := D
    refine ⟨_, rfl, hk, hG (h12.le_trans hm13) (D.pm [3, 0, 1, 2, 4] rfl), ?_⟩
    rw [if_neg (by simp), e]
    have D2 : Ctx [] (memOf w) w w578 [] m13 [rtA br r', tbA b t'] := rtI (r := r') p q ((D.pk [3, 1, 4, 2] [0] rfl).noL)
    exact ⟨⟨i + 1, b, t', r', m13, rfl, rfl, hlt, hR, by omega, by omega, ((hmm.le_trans hmm').le_trans h12).le_trans hm13, D2.swap⟩, hmeas⟩
end Go.Proofs
