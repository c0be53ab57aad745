import Derived.Test.YtfhjpjkecjlmjaaU08m
set_option linter.unusedVariables false
set_option linter.unusedSimpArgs false
set_option maxRecDepth 10000
namespace Go.Proofs
open Go X RowKit
theorem l_BagPlays (w : World) (most : Int) (q : Option Addr) (c : Nat) (l : List Act) (hn : l.length ≤ maxLen) (hp : Acts (memOf w) q c l) : Calls Try.prog 5 #[.int .i64 most, .slice q l.length c] w (LawR w) := by
  refine x_gemotlaw08_BagPlays _ _ _ _ w _ ?_
  have C := lawStart w
  refine (c_light q c l hn).call C hp fun _ m1 w2 hk hm1 _ C => ⟨_, rfl, hk.size, ?_⟩
  cases hli : light l with
  | false =>
    rw [if_neg (by decide)]
    refine c_knows.call C trivial fun _ m2 w5 hk hm2 _ C => ⟨_, rfl, hk.size, rfl, C.at_⟩
  | true =>
  obtain ⟨hlen, hbs⟩ := light_spec hli
  rw [if_pos (by decide)]
  refine c_knows.call C trivial fun _ m2 w8 hk hm2 _ C => ⟨_, rfl, hk.size, ?_⟩
  rw [if_neg (by decide)]
  refine (c_New most).call C trivial fun b m3 w11 hk hm3 _ C => ⟨_, rfl, hk.size, ?_⟩
  refine (r_New most).call (As := [bagA b (min (max most 0) 2000) []]) C trivial fun b2 m4 w14 hk hm4 _ C => ⟨_, rfl, hk.size, ?_⟩
  generalize hkk : min (max most 0) 2000 = k at C
  have hk0 : 0 ≤ k := by omega
  have hk1 : k ≤ 2000 := by omega
  refine ⟨fun n w' _ => ∃ j : Nat, n = j ∧ j ≤ l.length ∧ ∃ (rs ss : List Pr) (m : Mem), PRel m k rs ss ∧ Ctx [] (memOf w) w w' [] m [bagA b k rs, refA b2 k ss], fun n _ => (l.length - n).toNat, ⟨0, rfl, by omega, [], [], m4, ⟨rfl, by simp, by simp, by simpa using hk0⟩, Ctx.swap C⟩, ?_⟩
  rintro n w19 L20 _ ⟨j, rfl, hj, rs, ss, m, hP, C⟩
  have hlenP := hP.length
  have hmx := hP.max
  by_cases hlt : j < l.length
  · rw [if_pos (by simpa using hlt)]
    obtain ⟨pa, rfl, ha⟩ := hp.src.elem acrow_len hlt
    have hmem := List.getElem_mem hlt
    have hf : ∀ {w' : World} {m' : Mem} {As : List Asn}, Ctx [] (memOf w) w w' [] m' As → FactsW [(pa.add (j * 10), (l[j]).row)] w' [] := fun C => C.memFact (ha.mono C.le) (facts_nil _ _)
    refine ⟨_, hf C, by omega, by omega, ?_⟩
    rw [onSome_some]
    refine ⟨_, _, _, _, _, _, _, _, _, _, _, _, by rw [Int.toNat_natCast]; exact List.mem_cons_self, fun w89 h89 => ?_⟩
    replace C := C.hid0 h89
    refine (c_do b b2 k hk0 hk1 rs ss l[j] (hbs _ hmem) (hp.i _ hmem)).call (As := []) C ⟨hP, (hp.byt _ hmem).mono C.le⟩ fun x m5 w91 hk hm5 hQ C => ⟨_, rfl, hk.size, hf C, ?_⟩
    obtain ⟨q2, c2, C2⟩ := refO (Ctx.swap C)
    have hlenQ := hQ.length
    refine ⟨[(⟨b2, 0, none⟩, [.slice q2 x.2.length c2]), (pa.add (j * 10), (l[j]).row)], C2.blkFact1 0 _ rfl (hf C2), fun y hy => List.mem_cons_of_mem _ hy, ?_⟩
    rw [if_pos (by decide), onSome_some]
    refine ⟨_, _, _, List.mem_cons_self, ?_⟩
    have C3 : Ctx [] (memOf w) w w91 [] m5 [bagA b k x.1, refB b2 (.slice q2 x.2.length c2) k, refR q2 c2 x.2] := C2.third
    obtain ⟨q3, c3, C4⟩ := bagO C3
    refine (c_Len b q3 x.1.length c3 k).call (As := rowsA q3 c3 x.1 :: (bytesAs x.1 ++ [refB b2 (.slice q2 x.2.length c2) k, refR q2 c2 x.2])) C4 trivial fun _ m6 w100 hk hm6 _ C => ⟨_, rfl, hk.size, ?_⟩
    have C5 : Ctx [] (memOf w) w w100 [] m6 [bagA b k x.1, refB b2 (.slice q2 x.2.length c2) k, refR q2 c2 x.2] := bagI C
    have C6 : Ctx [] (memOf w) w w100 [] m6 [refB b2 (.slice q2 x.2.length c2) k, refR q2 c2 x.2, bagA b k x.1] := C5.rot
    refine ⟨C6.blkFact1 0 _ rfl (hf C6), ?_⟩
    rw [if_neg (by simp [hlenQ])]
    have e : IntKind.wrap .i64 ((j : Int) + 1) = ((j + 1 : Nat) : Int) := by rw [w_i64 (by omega) (by omega)]; omega
    rw [e]
    refine ⟨⟨j + 1, rfl, hlt, x.1, x.2, m6, hQ.mono hm6, Ctx.swap (refI C6)⟩, ?_⟩
    show ((l.length : Int) - ((j + 1 : Nat) : Int)).toNat + 1 ≤ ((l.length : Int) - (j : Int)).toNat
    omega
  · rw [if_neg (by simpa using hlt)]
    refine ⟨fun n w' L' => ∃ i : Nat, n = i ∧ i ≤ ss.length ∧ ∃ m', m.le m' ∧ Ctx [] (memOf w) w w' L' m' [refA b2 k ss, bagA b k rs], fun n _ => (ss.length - n).toNat, ⟨0, rfl, by omega, m, Mem.le_refl _, C.swap⟩, ?_⟩
    rintro n w24 L25 _ ⟨i, rfl, hi, m', hm', C⟩
    replace C := C.noL
    rw [onSome_some]
    obtain ⟨q2, c2, C2⟩ := refO C
    refine ⟨q2, ss.length, c2, C2.blkCell (j := 0) rfl, ?_⟩
    by_cases hlt2 : i < ss.length
    · rw [if_pos (by simpa using hlt2)]
      have hir : i < rs.length := by omega
      have hpe := hP.at_ i hir hlt2
      have hbl := hP.len _ (List.getElem_mem hlt2)
      have C3 : Ctx [] (memOf w) w w24 [] m' [bagA b k rs, refB b2 (.slice q2 ss.length c2) k, refR q2 c2 ss] := C2.third
      refine (c_LookB b k rs i hir (by rw [hpe]; omega)).call (As := [refB b2 (.slice q2 ss.length c2) k, refR q2 c2 ss]) C3 trivial fun x m5 w31 hk hm5 _ C => ⟨_, _, _, _, _, _, _, _, _, rfl, hk.size, [], facts_nil _ _, fun w42 L43 h42 g42 => ?_⟩
      replace C := Ctx.hidL C h42 g42
      obtain ⟨m6, hm6, hs6, C⟩ := Ctx.slShare C
      refine Ctx.gives C (c_num _) fun w45 k45 C => ⟨_, rfl, k45, facts_nil _ _, ?_⟩
      obtain ⟨a2, rfl⟩ := slice_some (Ctx.third C) (rows_ne hlt2)
      have hf : ∀ {w' : World} {L' : List Nat} {m' : Mem} {As : List Asn}, Ctx [] (memOf w) w w' L' m' (bagA b k rs :: refB b2 (.slice (some a2) ss.length c2) k :: refR (some a2) c2 ss :: As) → FactsW [(⟨b2, 0, none⟩, [.slice (some a2) ss.length c2]), (a2.add (i * 6), ss[i].row)] w' L' := by
        intro w' L' m' As C
        have c2' := (Ctx.third C).slCells.1 a2 rfl
        have e2 := cells_elem row_len c2'.1 i hlt2
        have b2' := World.block_lt_of_cell? w' _ (e2 0 _ rfl)
        rw [addr_block] at b2'
        exact (Ctx.swap C).blkFact1 0 _ rfl (factsOne e2 b2' (by rw [addr_block]; exact c2'.2 (rows_ne hlt2)))
      refine ⟨_, hf C, (fun y hy => by cases hy), ?_⟩
      rw [if_pos (by decide), onSome_some]
      refine ⟨_, _, _, List.mem_cons_self, by omega, by omega, ?_⟩
      rw [onSome_some]
      refine ⟨_, _, _, _, _, _, _, _, by rw [Int.toNat_natCast]; exact List.mem_cons_of_mem _ List.mem_cons_self, ?_⟩
      refine (c_Ref rs[i].p x rs[i].p.bs.length (by rw [hpe]; omega)).call (As := [bagA b k rs, refB b2 (.slice (some a2) ss.length c2) k, refR (some a2) c2 ss]) C hs6 fun y m7 w63 kk hm7 _ C => ⟨_, _, _, _, _, _, _, _, rfl, kk, hf (Ctx.drop C), ?_⟩
      obtain ⟨m8, hm8, hs8, C⟩ := Ctx.slShare C
      have hmm := (((hm'.le_trans hm5).le_trans hm6).le_trans hm7).le_trans hm8
      refine (c_Same rs[i].p ss[i].p y.1 ss[i].q y.2 ss[i].c).call (As := [bagA b k rs, refB b2 (.slice (some a2) ss.length c2) k, refR (some a2) c2 ss]) C ⟨hs8, (hP.src _ (List.getElem_mem hlt2)).mono hmm⟩ fun _ m9 w73 kk hm9 _ C => ⟨_, rfl, kk, hf C, ?_⟩
      rw [hpe, sameP_self, if_neg (by decide)]
      have e : IntKind.wrap .i64 ((i : Int) + 1) = ((i + 1 : Nat) : Int) := by rw [w_i64 (by omega) (by omega)]; omega
      rw [e]
      have C9 : Ctx [] (memOf w) w w73 L43 m9 [refB b2 (.slice (some a2) ss.length c2) k, refR (some a2) c2 ss, bagA b k rs] := Ctx.rot C
      refine ⟨⟨i + 1, rfl, hlt2, m9, hmm.le_trans hm9, refI C9⟩, ?_⟩
      show ((ss.length : Int) - ((i + 1 : Nat) : Int)).toNat + 1 ≤ ((ss.length : Int) - (i : Int)).toNat
      omega
    · rw [if_neg (by simpa using hlt2)]
      exact ⟨rfl, C.at_⟩
end Go.Proofs
