import Derived.Test.YtfhjpjkecjlmjaaU08i
set_option linter.unusedVariables false
set_option linter.unusedSimpArgs false
set_option maxRecDepth 10000
namespace Go.Proofs
open Go X RowKit
theorem erase_mem {rs : List Pr} {i : Nat} {r : Pr} (h : r ∈ rs.eraseIdx i) : r ∈ rs := List.mem_of_mem_eraseIdx h
theorem spoilR_ok {p : Pc} {r : Pr} {a mask : Int} (h0 : 0 ≤ mask ∧ mask < 4294967296) (h : OkR p r.p) : OkR p (spoilR r a mask).p := by
  unfold spoilR
  split
  · rename_i he
    unfold spoilE at he
    split at he
    · cases he
    · rename_i hb
      split at he
      · cases he
      · rename_i hm
        split at he
        · cases he
        · rename_i ha
          obtain ⟨h1, h2, h3, h4, h5⟩ := h
          rcases h5 with ⟨h5, h6⟩ | ⟨h5, _⟩
          · refine ⟨h1, h2, h3, h4, .inr ⟨rfl, a.toNat, mask, by omega, h0.2, ?_, ?_⟩⟩
            · rw [← h6]; omega
            · show spoil r.p.bs a.toNat mask 4 = _
              rw [h6]
          · exact absurd h5 hb
  · exact h
theorem spoilR_len (r : Pr) (a mask : Int) : (spoilR r a mask).p.bs.length = r.p.bs.length := by
  unfold spoilR; split
  · exact spoil_len ..
  · rfl
theorem l_BagTrue (w : World) (q : Option Addr) (c : Nat) (l : List Act) (hn : l.length ≤ maxLen) (hp : Acts (memOf w) q c l) : Calls Try.prog 3 #[.slice q l.length c] w (LawR w) := by
  refine x_gemotlaw08_BagTrue _ _ _ w _ ?_
  have C := lawStart w
  refine (c_light q c l hn).call C hp fun _ m1 w2 hk hm1 _ C => ⟨_, rfl, hk.size, ?_⟩
  cases hli : light l with
  | false =>
    rw [if_neg (by decide)]
    refine c_knows.call C trivial fun _ m2 w5 hk hm2 _ C => ⟨_, rfl, hk.size, rfl, C.at_⟩
  | true =>
  obtain ⟨hlen, hbs⟩ := light_spec hli
  rw [if_pos (by decide)]
  refine c_knows.call C trivial fun _ m2 w8 hk hm2 _ C => ⟨_, rfl, hk.size, ?_⟩
  rw [if_neg (by decide)]
  refine (c_New 200).call C trivial fun b m3 w11 hk hm3 _ C => ⟨_, rfl, hk.size, ?_⟩
  refine ⟨fun q15 k16 k17 n18 w' L => ∃ k : Nat, n18 = k ∧ k ≤ l.length ∧ ∃ (put rs : List Pr) (m : Mem), put.length = k16 ∧ k16 ≤ k ∧ (∀ r ∈ rs, ∃ p ∈ put, OkR p.p r.p) ∧ rs.length ≤ 200 ∧ (∀ r ∈ rs, r.p.bs.length ≤ 5000) ∧
      (∀ p ∈ put, p.p.bs.length ≤ 5000 ∧ MSrc (memOf w) 1 (.slice p.q p.p.bs.length p.c) p.p.bs.length (byV p.p.bs)) ∧ Ctx [] (memOf w) w w' L m [slA (.slice q15 k16 k17) k16 (rows put) 34 6, bagA b 200 rs],
    fun _ _ _ n _ => (l.length - n).toNat, ⟨0, rfl, by omega, [], [], m3, rfl, by omega, by simp, by simp, by simp, by simp, ?_⟩, ?_⟩
  · exact Ctx.slNil C
  rintro q15 k16 k17 n18 w19 L20 _ ⟨k, rfl, hk, put, rs, m, rfl, hpk, hrel, hrl, hrb, hput, C⟩
  replace C := C.noL
  have e : IntKind.wrap .i64 ((k : Int) + 1) = ((k + 1 : Nat) : Int) := by rw [w_i64 (by omega) (by omega)]; omega
  by_cases hlt : k < l.length
  · rw [if_pos (by simpa using hlt)]
    refine ⟨by omega, by omega, ?_⟩
    obtain ⟨pa, rfl, ha⟩ := hp.src.elem acrow_len hlt
    rw [onSome_some]
    have hmem := List.getElem_mem hlt
    have hbl := hbs _ hmem
    have hbyt := hp.byt _ hmem
    have hmask := hp.mask _ hmem
    have hii := hp.i _ hmem
    have hms : ((l.length : Int) - ((k + 1 : Nat) : Int)).toNat + 1 ≤ ((l.length : Int) - (k : Int)).toNat := by omega
    refine ⟨_, _, _, _, _, _, _, _, _, _, _, _, by rw [Int.toNat_natCast]; exact C.cells (ha.mono C.le), ?_⟩
    let P : Pc := { (l[k]).p with bad := false }
    have hPlen : P.bs.length = (l[k]).p.bs.length := rfl
    by_cases h0 : (l[k]).kd = 0
    · rw [if_pos (by simp [h0]), if_pos (by simp [h0])]
      intro w277 L278 h277 g277
      replace C := C.hidL h277 g277
      refine (c_Own P (l[k]).q (l[k]).c (by omega)).call (As := [putA q15 k17 put, bagA b 200 rs]) C (hbyt.mono C.le) fun x m1 w280 kk hm1 _ C => ⟨_, _, _, _, _, _, _, _, rfl, kk, ?_⟩
      have C1 : Ctx [] (memOf w) w w280 L278 m1 ([bagA b 200 rs] ++ slB x.1 x.2 (l[k]).p.bs :: [putA q15 k17 put]) := Ctx.perm C ((List.Perm.cons _ (List.Perm.swap _ _ _)).trans (List.Perm.swap _ _ _))
      refine (c_PutB b 200 (by omega) rs P x.1 x.2 (by omega)).callL C1 (fun F' hF _ => slLend hF) fun y w290 kk _ C => ⟨_, rfl, kk, ?_⟩
      have C2 : Ctx [] (memOf w) w w290 L278 m1 [putA q15 k17 put, bagA b 200 (if (rs.length : Int) ≥ 200 then rs else rs ++ [(⟨P, y, (l[k]).p.bs.length⟩ : Pr)])] := (Ctx.swap C).drop.swap
      have C3 := (C2.alloc (Pr.row ⟨P, (l[k]).q, (l[k]).c⟩) 34)
      have hcell : Cells (w290.alloc (.cells (Pr.row ⟨P, (l[k]).q, (l[k]).c⟩).toArray 34)) ⟨w290.heap.size, 0, none⟩ (Pr.row ⟨P, (l[k]).q, (l[k]).c⟩) := C3.blkCells fun j v e => by rw [Nat.zero_add]; exact e
      obtain ⟨q2, c2, w295, hr, hkk, C4⟩ := C3.swap.app (P := Try.prog) (bytes := 64) (t := 27) (t2 := 27) 27 (by kernel_rfl) (.some ⟨w290.heap.size, 0, none⟩ 1 1 (Pr.row ⟨P, (l[k]).q, (l[k]).c⟩) rfl hcell) (by omega) (row_one _)
      refine ⟨q2, put.length + 1, c2, w295, hr, hkk, ?_, ?_⟩
      · rw [e]
        refine ⟨k + 1, rfl, hlt, put ++ [⟨P, (l[k]).q, (l[k]).c⟩], (if (rs.length : Int) ≥ 200 then rs else rs ++ [(⟨P, y, (l[k]).p.bs.length⟩ : Pr)]), m1, by simp, by omega, ?_, ?_, ?_, ?_, ?_⟩
        rotate_right 1
        · have C5 := (C4.swap).drop
          have e1 : rows put ++ Pr.row ⟨P, (l[k]).q, (l[k]).c⟩ = rows (put ++ [⟨P, (l[k]).q, (l[k]).c⟩]) := by rw [rows_append]; simp [rows]
          rw [e1] at C5
          exact C5
        · intro r hr
          have key : (∃ r0 ∈ rs, r = r0) ∨ r = ⟨P, y, (l[k]).p.bs.length⟩ := by
            split at hr
            · exact .inl ⟨r, hr, rfl⟩
            · rcases List.mem_append.1 hr with h | h
              · exact .inl ⟨r, h, rfl⟩
              · exact .inr (by simpa using h)
          rcases key with ⟨r0, h0, rfl⟩ | rfl
          · obtain ⟨p, hp1, hp2⟩ := hrel r h0
            exact ⟨p, by simp [hp1], hp2⟩
          · exact ⟨⟨P, (l[k]).q, (l[k]).c⟩, by simp, rfl, rfl, rfl, rfl, .inl ⟨rfl, rfl⟩⟩
        · split
          · exact hrl
          · simp; omega
        · intro r hr
          split at hr
          · exact hrb r hr
          · rcases List.mem_append.1 hr with h | h
            · exact hrb r h
            · have : r = ⟨P, y, (l[k]).p.bs.length⟩ := by simpa using h
              subst this; exact hbl
        · intro p hp
          rcases List.mem_append.1 hp with h | h
          · exact hput p h
          · have : p = ⟨P, (l[k]).q, (l[k]).c⟩ := by simpa using h
            subst this; exact ⟨hbl, hbyt⟩
      · rw [e]; exact hms
    rw [if_neg (by simp [h0])]
    by_cases h1 : (l[k]).kd = 1
    · rw [if_pos (by simp [h1])]
      intro w277 L278 h277 g277
      replace C := C.hidL h277 g277
      refine (c_Own P (l[k]).q (l[k]).c (by omega)).call (As := [putA q15 k17 put, bagA b 200 rs]) C (hbyt.mono C.le) fun x m1 w280 kk hm1 _ C => ⟨_, _, _, _, _, _, _, _, rfl, kk, ?_⟩
      have C1 : Ctx [] (memOf w) w w280 L278 m1 ([bagA b 200 rs] ++ slB x.1 x.2 (l[k]).p.bs :: [putA q15 k17 put]) := Ctx.perm C ((List.Perm.cons _ (List.Perm.swap _ _ _)).trans (List.Perm.swap _ _ _))
      refine (c_PutB b 200 (by omega) rs P x.1 x.2 (by omega)).callL C1 (fun F' hF _ => slLend hF) fun y w290 kk _ C => ⟨_, rfl, kk, ?_⟩
      have C2 : Ctx [] (memOf w) w w290 L278 m1 [putA q15 k17 put, bagA b 200 (if (rs.length : Int) ≥ 200 then rs else rs ++ [(⟨P, y, (l[k]).p.bs.length⟩ : Pr)])] := (Ctx.swap C).drop.swap
      have C3 := (C2.alloc (Pr.row ⟨P, (l[k]).q, (l[k]).c⟩) 34)
      have hcell : Cells (w290.alloc (.cells (Pr.row ⟨P, (l[k]).q, (l[k]).c⟩).toArray 34)) ⟨w290.heap.size, 0, none⟩ (Pr.row ⟨P, (l[k]).q, (l[k]).c⟩) := C3.blkCells fun j v e => by rw [Nat.zero_add]; exact e
      obtain ⟨q2, c2, w295, hr, hkk, C4⟩ := C3.swap.app (P := Try.prog) (bytes := 64) (t := 27) (t2 := 27) 27 (by kernel_rfl) (.some ⟨w290.heap.size, 0, none⟩ 1 1 (Pr.row ⟨P, (l[k]).q, (l[k]).c⟩) rfl hcell) (by omega) (row_one _)
      refine ⟨q2, put.length + 1, c2, w295, hr, hkk, ?_, ?_⟩
      · rw [e]
        refine ⟨k + 1, rfl, hlt, put ++ [⟨P, (l[k]).q, (l[k]).c⟩], (if (rs.length : Int) ≥ 200 then rs else rs ++ [(⟨P, y, (l[k]).p.bs.length⟩ : Pr)]), m1, by simp, by omega, ?_, ?_, ?_, ?_, ?_⟩
        rotate_right 1
        · have C5 := (C4.swap).drop
          have e1 : rows put ++ Pr.row ⟨P, (l[k]).q, (l[k]).c⟩ = rows (put ++ [⟨P, (l[k]).q, (l[k]).c⟩]) := by rw [rows_append]; simp [rows]
          rw [e1] at C5
          exact C5
        · intro r hr
          have key : (∃ r0 ∈ rs, r = r0) ∨ r = ⟨P, y, (l[k]).p.bs.length⟩ := by
            split at hr
            · exact .inl ⟨r, hr, rfl⟩
            · rcases List.mem_append.1 hr with h | h
              · exact .inl ⟨r, h, rfl⟩
              · exact .inr (by simpa using h)
          rcases key with ⟨r0, h0, rfl⟩ | rfl
          · obtain ⟨p, hp1, hp2⟩ := hrel r h0
            exact ⟨p, by simp [hp1], hp2⟩
          · exact ⟨⟨P, (l[k]).q, (l[k]).c⟩, by simp, rfl, rfl, rfl, rfl, .inl ⟨rfl, rfl⟩⟩
        · split
          · exact hrl
          · simp; omega
        · intro r hr
          split at hr
          · exact hrb r hr
          · rcases List.mem_append.1 hr with h | h
            · exact hrb r h
            · have : r = ⟨P, y, (l[k]).p.bs.length⟩ := by simpa using h
              subst this; exact hbl
        · intro p hp
          rcases List.mem_append.1 hp with h | h
          · exact hput p h
          · have : p = ⟨P, (l[k]).q, (l[k]).c⟩ := by simpa using h
            subst this; exact ⟨hbl, hbyt⟩
      · rw [e]; exact hms
    rw [if_neg (by simp [h1])]
    by_cases h3 : (l[k]).kd = 3
    · rw [if_pos (by simp [h3])]
      intro w165 L166 h165 g165
      replace C := C.hidL h165 g165
      by_cases hin : 0 ≤ (l[k]).i ∧ (l[k]).i < rs.length
      · obtain ⟨n, hn⟩ : ∃ n : Nat, (l[k]).i = n := ⟨(l[k]).i.toNat, by omega⟩
        have hnr : n < rs.length := by omega
        rw [hn]
        refine (c_TakeB b 200 rs n hnr (by have := hrb _ (List.getElem_mem hnr); omega) (by omega)).call (As := [putA q15 k17 put]) C.swap trivial fun x m1 w168 kk hm1 _ C => ⟨_, _, _, _, _, _, _, _, _, rfl, kk, fun w178 L179 h178 g178 => ?_⟩
        replace C := Ctx.hidL C h178 g178
        refine Ctx.gives C (c_num _) fun w181 k181 C => ⟨_, rfl, k181, ?_⟩
        obtain ⟨m2, hm2, hs2, C⟩ := Ctx.slShare C
        refine innerOK (LawR w) q15 k17 put _ _ rs[n].p x rs[n].p.bs.length 0 _ (Ctx.swap C) (fun p hp => (hput p hp).2.mono C.le) (fun p hp => (hput p hp).1) (by omega) hs2 (.inr (hrel _ (List.getElem_mem hnr))) fun w' L' m' hm' C => ⟨?_, ?_⟩
        · rw [e]
          exact ⟨k + 1, rfl, hlt, put, (rs.eraseIdx n), m', rfl, by omega, (fun r hr => hrel r (erase_mem hr)), by rw [List.length_eraseIdx]; split <;> omega, (fun r hr => hrb r (erase_mem hr)), hput, C⟩
        · rw [e]; exact hms
      · refine (c_NoB 12 (.inl rfl) b 200 rs (l[k]).i (by omega)).call (As := [putA q15 k17 put]) C.swap trivial fun _ m1 w168 kk hm1 _ C => ⟨_, _, _, _, _, _, _, _, _, rfl, kk, fun w178 L179 h178 g178 => ?_⟩
        replace C := Ctx.hidL C h178 g178
        refine Ctx.gives C (c_num _) fun w181 k181 C => ⟨_, rfl, k181, ?_⟩
        refine innerOK (LawR w) q15 k17 put _ _ ⟨0, 0, 0, 0, [], false⟩ none 0 3 _ (Ctx.swap C) (fun p hp => (hput p hp).2.mono C.le) (fun p hp => (hput p hp).1) (by omega) (.nil ..) (.inl (by omega)) fun w' L' m' hm' C => ⟨?_, ?_⟩
        · rw [e]
          exact ⟨k + 1, rfl, hlt, put, rs, m', rfl, by omega, hrel, hrl, hrb, hput, C⟩
        · rw [e]; exact hms
    rw [if_neg (by simp [h3])]
    by_cases h4 : (l[k]).kd = 4
    · rw [if_pos (by simp [h4])]
      intro w221 L222 h221 g221
      replace C := C.hidL h221 g221
      refine (c_TwiceB b 200 (by omega) rs (l[k]).i (fun r hr => by have := hrb r hr; omega)).call (As := [putA q15 k17 put]) C.swap trivial fun x m1 w224 kk hm1 _ C => ⟨_, rfl, kk, ?_, ?_⟩
      · rw [e]
        have hsub : ∀ r ∈ twiceL rs 200 (l[k]).i x, ∃ r0 ∈ rs, r.p = r0.p := by
          intro r hr
          unfold twiceL at hr
          split at hr
          · split at hr
            · rename_i r0 h0
              split at hr
              · rcases List.mem_append.1 hr with h | h
                · exact ⟨r, h, rfl⟩
                · have : r = ⟨r0.p, x, r0.p.bs.length⟩ := by simpa using h
                  subst this
                  exact ⟨r0, List.mem_of_getElem? h0, rfl⟩
              · exact ⟨r, hr, rfl⟩
            · exact ⟨r, hr, rfl⟩
          · exact ⟨r, hr, rfl⟩
        have hl2 : (twiceL rs 200 (l[k]).i x).length ≤ 200 := by
          unfold twiceL
          split
          · split
            · split
              · simp; omega
              · exact hrl
            · exact hrl
          · exact hrl
        refine ⟨k + 1, rfl, hlt, put, twiceL rs 200 (l[k]).i x, m1, rfl, by omega, ?_, hl2, ?_, hput, Ctx.swap C⟩
        · intro r hr
          obtain ⟨r0, h0, e0⟩ := hsub r hr
          rw [e0]; exact hrel r0 h0
        · intro r hr
          obtain ⟨r0, h0, e0⟩ := hsub r hr
          rw [e0]; exact hrb r0 h0
      · rw [e]; exact hms
    rw [if_neg (by simp [h4])]
    by_cases h5 : (l[k]).kd = 5
    · rw [if_pos (by simp [h5])]
      intro w216 L217 h216 g216
      replace C := C.hidL h216 g216
      refine (c_SpoilB b 200 rs (l[k]).i (l[k]).at_ (l[k]).mask (fun r hr => by have := hrb r hr; omega)).call (As := [putA q15 k17 put]) C.swap trivial fun _ m1 w219 kk hm1 _ C => ⟨_, rfl, kk, ?_, ?_⟩
      · rw [e]
        have hsub : ∀ r ∈ spoilL rs (l[k]).i (l[k]).at_ (l[k]).mask, r ∈ rs ∨ ∃ r0 ∈ rs, r = spoilR r0 (l[k]).at_ (l[k]).mask := by
          intro r hr
          unfold spoilL at hr
          split at hr
          · split at hr
            · rename_i r0 h0
              rcases List.mem_or_eq_of_mem_set hr with h | h
              · exact .inl h
              · exact .inr ⟨r0, List.mem_of_getElem? h0, h⟩
            · exact .inl hr
          · exact .inl hr
        have hl2 : (spoilL rs (l[k]).i (l[k]).at_ (l[k]).mask).length ≤ 200 := by
          unfold spoilL
          split
          · split
            · simpa using hrl
            · exact hrl
          · exact hrl
        refine ⟨k + 1, rfl, hlt, put, spoilL rs (l[k]).i (l[k]).at_ (l[k]).mask, m1, rfl, by omega, ?_, hl2, ?_, hput, Ctx.swap C⟩
        · intro r hr
          rcases hsub r hr with h | ⟨r0, h, rfl⟩
          · exact hrel r h
          · obtain ⟨p, hp1, hp2⟩ := hrel r0 h
            exact ⟨p, hp1, spoilR_ok hmask hp2⟩
        · intro r hr
          rcases hsub r hr with h | ⟨r0, h, rfl⟩
          · exact hrb r h
          · rw [spoilR_len]; exact hrb r0 h
      · rw [e]; exact hms
    rw [if_neg (by simp [h5])]
    intro w165 L166 h165 g165
    replace C := C.hidL h165 g165
    by_cases hin : 0 ≤ (l[k]).i ∧ (l[k]).i < rs.length
    · obtain ⟨n, hn⟩ : ∃ n : Nat, (l[k]).i = n := ⟨(l[k]).i.toNat, by omega⟩
      have hnr : n < rs.length := by omega
      rw [hn]
      refine (c_LookB b 200 rs n hnr (by have := hrb _ (List.getElem_mem hnr); omega)).call (As := [putA q15 k17 put]) C.swap trivial fun x m1 w168 kk hm1 _ C => ⟨_, _, _, _, _, _, _, _, _, rfl, kk, fun w178 L179 h178 g178 => ?_⟩
      replace C := Ctx.hidL C h178 g178
      refine Ctx.gives C (c_num _) fun w181 k181 C => ⟨_, rfl, k181, ?_⟩
      obtain ⟨m2, hm2, hs2, C⟩ := Ctx.slShare C
      refine innerOK (LawR w) q15 k17 put _ _ rs[n].p x rs[n].p.bs.length 0 _ (Ctx.swap C) (fun p hp => (hput p hp).2.mono C.le) (fun p hp => (hput p hp).1) (by omega) hs2 (.inr (hrel _ (List.getElem_mem hnr))) fun w' L' m' hm' C => ⟨?_, ?_⟩
      · rw [e]
        exact ⟨k + 1, rfl, hlt, put, rs, m', rfl, by omega, hrel, hrl, hrb, hput, C⟩
      · rw [e]; exact hms
    · refine (c_NoB 15 (.inr rfl) b 200 rs (l[k]).i (by omega)).call (As := [putA q15 k17 put]) C.swap trivial fun _ m1 w168 kk hm1 _ C => ⟨_, _, _, _, _, _, _, _, _, rfl, kk, fun w178 L179 h178 g178 => ?_⟩
      replace C := Ctx.hidL C h178 g178
      refine Ctx.gives C (c_num _) fun w181 k181 C => ⟨_, rfl, k181, ?_⟩
      refine innerOK (LawR w) q15 k17 put _ _ ⟨0, 0, 0, 0, [], false⟩ none 0 3 _ (Ctx.swap C) (fun p hp => (hput p hp).2.mono C.le) (fun p hp => (hput p hp).1) (by omega) (.nil ..) (.inl (by omega)) fun w' L' m' hm' C => ⟨?_, ?_⟩
      · rw [e]
        exact ⟨k + 1, rfl, hlt, put, rs, m', rfl, by omega, hrel, hrl, hrb, hput, C⟩
      · rw [e]; exact hms
  · rw [if_neg (by simpa using hlt)]
    exact ⟨rfl, C.at_⟩
end Go.Proofs
