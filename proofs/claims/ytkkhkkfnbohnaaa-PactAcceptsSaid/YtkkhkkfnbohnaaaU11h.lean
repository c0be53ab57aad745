import Derived.Test.YtkkhkkfnbohnaaaU11g
set_option linter.unusedVariables false
set_option linter.unusedSimpArgs false
set_option maxRecDepth 10000
namespace Go.Proofs
open Go X RowKit
/-- the acceptor, and the document's -/
structure AR (x y : Acp) (has : Bool) : Prop where
  pr : x.pr = y.pr
  ac : x.ac = y.ac
  has : has = decide (y.ac ≠ 0)
  no : y.ac = 0 → y.v.er = ([], [])
  yes : y.ac ≠ 0 → x.v.er = y.v.er
theorem AR.prep1 {x y : Acp} {has : Bool} (h : AR x y has) (n : Int) : (prepF x n).1 = (prepF y n).1 := by
  unfold prepF; rw [h.pr]; split <;> rfl
theorem AR.prep2 {x y : Acp} {has : Bool} (h : AR x y has) (n : Int) : AR (prepF x n).2 (prepF y n).2 has := by
  unfold prepF; rw [h.pr]
  split
  · exact h
  · exact ⟨rfl, h.ac, h.has, h.no, h.yes⟩
theorem prep_v {x : Acp} {n : Int} : (prepF x n).2.v = x.v := by unfold prepF; split <;> rfl
theorem AR.acc {x y : Acp} {has : Bool} (h : AR x y has) (n : Int) {u v : Vl} (he : u.er = v.er) : AR (accF x n u) (accF y n v) (has || (prepF y n).1) := by
  have h1 := h.prep1 n
  unfold accF
  rw [h1]
  cases hp : (prepF y n).1 with
  | false => rw [if_neg (by decide), if_neg (by decide), Bool.or_false]; exact h
  | true =>
    rw [if_pos rfl, if_pos rfl, Bool.or_true]
    have hn : n ≠ 0 := fun h0 => by rw [prepF, if_pos (.inl h0)] at hp; cases hp
    exact ⟨rfl, rfl, by simp [hn], fun h0 => absurd h0 hn, fun _ => he⟩
section
variable {F0 : List Nat} {m0 : Mem} {w0 w : World} {L : List Nat} {m : Mem} {As : List Asn}
theorem rF {b : Nat} {y : Acp} {h : Bool} (C : Ctx F0 m0 w0 w L m (rA b y h :: As)) : FactsW [(⟨b, 0, none⟩, [.int .u64 y.pr]), (⟨b, 0 + 1, none⟩, [.int .u64 y.ac]), (⟨b, 0 + 4, none⟩, [.bool h]), (⟨b, 0 + 2, none⟩, y.v.row)] w L :=
  C.blkFact1 0 _ rfl (C.blkFact1 (0 + 1) _ rfl (C.blkFact1 (0 + 4) _ rfl (C.blkFact (0 + 2) y.v.row (fun k v e => by match k, e with | 0, e => exact e | 1, e => exact e) (facts_nil _ _))))
end
theorem l_PactAccepts (w : World) (q : Sl) (l : List Av) (r n : Int) (hr : 0 ≤ r ∧ r < 4294967296) (hn : 0 ≤ n ∧ n < 256) (hm : MSrc (memOf w) 8 (slV q l.length) l.length (l.flatMap Av.row)) (ha : ∀ a ∈ l, AvM (memOf w) a) :
    Calls Try.prog 3 #[slV q l.length, .int .u32 r, .int .u8 n] w (LawR w) := by
  refine x_PactAccepts _ _ _ _ _ w _ ?_
  have C := lawStart w
  refine (c_light q l).call (As := []) C ⟨hm, ha⟩ fun b m1 w2 hk hm1 hb C => ⟨_, rfl, hk.size, ?_⟩
  cases b with
  | false =>
    rw [if_neg (by decide)]
    exact c_knows.call (As := []) C trivial fun _ m2 w5 hk hm2 _ C => ⟨_, rfl, hk.size, rfl, C.at_⟩
  | true =>
  rw [if_pos (by decide)]
  obtain ⟨hlen, hlt⟩ := hb rfl
  refine c_knows.call (As := []) C trivial fun _ m2 w8 hk hm2 _ C => ⟨_, rfl, hk.size, ?_⟩
  rw [if_neg (by decide)]
  refine c_NewAcc.call (As := []) C trivial fun b m3 w11 hk hm3 _ C => ⟨_, rfl, hk.size, ?_⟩
  have hm03 := (hm1.le_trans hm2).le_trans hm3
  refine ⟨fun i w' _ => ∃ (j : Nat) (x y : Acp) (has : Bool) (m' : Mem), i = j ∧ j ≤ l.length ∧ m3.le m' ∧ VlM m' x.v ∧ VlM m' y.v ∧ AR x y has ∧ Ctx [] (memOf w) w w' [] m' [aA b x, rA w11.heap.size y has], fun i _ => ((l.length : Int) - i).toNat,
    ⟨0, acp0, acp0, false, m3, rfl, by omega, Mem.le_refl _, vl0_M _, vl0_M _, ⟨rfl, rfl, rfl, fun _ => rfl, fun _ => rfl⟩, (C.alloc (acp0.cells false) 35).swap⟩, ?_⟩
  clear C
  rintro i w16 L17 _ ⟨j, x, y, has, m', rfl, hj, hmm, hxv, hyv, hR, D⟩
  by_cases hjl : j < l.length
  rotate_left
  · rw [if_neg (by simpa using hjl)]
    refine D.gives (c_Ballot r n hr hn) fun w19 k19 D => ⟨_, rfl, k19.size, ?_⟩
    refine D.gives (c_rBallot r n hr hn) fun w22 k22 D => ⟨_, rfl, k22.size, ?_⟩
    rw [if_pos (by simp)]
    refine D.gives (c_Round r n hr hn) fun w25 k25 D => ⟨_, rfl, k25.size, by simp, D.at_⟩
  rw [if_pos (by simpa using hjl)]
  have hm04 := hm03.le_trans hmm
  obtain ⟨a0, ha0, hc⟩ := (hm.mono hm04).elem av_len hjl
  refine ⟨by omega, by simpa using hjl, ?_⟩
  rw [ha0, onSome_some]
  have ham := (ha _ (List.getElem_mem hjl)).mono hm04
  have hal := hlt _ (List.getElem_mem hjl)
  generalize l[j] = a at hc ham hal
  have hav := ham.vl hal
  refine ⟨_, _, _, _, _, _, _, _, _, _, _, _, _, _, by rw [Int.toNat_natCast]; exact D.cells hc, ?_⟩
  by_cases hk2 : (a.kd.tmod 2 == 0) = true
  · rw [if_pos hk2]
    refine ⟨[], facts_nil _ _, fun w111 L112 h111 g111 => ?_⟩
    refine (c_Prepare b x a.bn).call (As := [_]) (D.hidL h111 g111) trivial fun _ m1' w114 hk1 hm1' _ C => ⟨_, rfl, hk1, facts_nil _ _, ?_⟩
    refine (c_rPrepare w11.heap.size y has a.bn).call (As := [_]) C.swap trivial fun _ m2' w117 hk2' hm2' _ C => ⟨_, rfl, hk2', facts_nil _ _, ?_⟩
    replace C := C.swap
    have hR2 := hR.prep2 a.bn
    have hm2 := hmm.le_trans (hm1'.le_trans hm2')
    have hxv2 : VlM m2' (prepF x a.bn).2.v := by rw [prep_v]; exact hxv.mono (hm1'.le_trans hm2')
    have hyv2 : VlM m2' (prepF y a.bn).2.v := by rw [prep_v]; exact hyv.mono (hm1'.le_trans hm2')
    rw [hR.prep1 a.bn]
    generalize (prepF x a.bn).2 = x2 at C hR2 hxv2
    generalize (prepF y a.bn).2 = y2 at C hR2 hyv2
    generalize hhas : has = has2 at C hR2
    refine (c_Held b x2).call (As := [_]) C hxv2 fun u m5 w120 hk5 hm5 hu C => ⟨_, _, _, _, _, _, _, _, rfl, hk5, _, rF C.swap, ?_⟩
    rw [if_pos (by simp)]
    refine ⟨y2.pr, by simp, fun w138 L139 h138 g138 => ?_⟩
    refine (c_Promised b x2).call (As := [_]) (C.hidL h138 g138) trivial fun _ m6 w141 hk6 hm6 _ C => ⟨_, rfl, hk6, rF C.swap, _, rF C.swap, fun _ h => h, ?_⟩
    rw [if_pos (by simp [hR2.pr])]
    refine ⟨y2.ac, by simp, ?_⟩
    rw [if_pos (by simp [hR2.ac])]
    refine ⟨has2, by simp, ?_⟩
    rw [if_pos (by rw [hR2.has, hR2.ac]; simp)]
    refine ⟨y2.v.mq.1, y2.v.ms.length, y2.v.mq.2, y2.v.tq.1, y2.v.ts.length, y2.v.tq.2, by simp, ?_⟩
    refine (c_RefV u).call (As := _) C (hu.1.mono hm6) fun t m7 w160 hk7 hm7 ht C => ⟨_, _, _, _, _, _, rfl, hk7, rF C.swap, ?_⟩
    have hyv3 := hyv2.mono (hm5.le_trans (hm6.le_trans hm7))
    refine (c_rSameV t y2.v).call (As := _) C ⟨ht.1, hyv3⟩ fun _ m8 w168 hk8 hm8 _ C => ⟨_, rfl, hk8, rF C.swap, ?_⟩
    have heq : t.er = y2.v.er := by
      rw [ht.2, hu.2, hR2.ac]
      by_cases h0 : y2.ac = 0
      · rw [if_pos h0, hR2.no h0]
      · rw [if_neg h0, hR2.yes h0]
    rw [if_neg (by simp [heq]), w_i64 (n := (j : Int) + 1) (by omega) (by omega)]
    have hmm8 := hm5.le_trans (hm6.le_trans (hm7.le_trans hm8))
    exact ⟨⟨j + 1, x2, y2, has2, m8, by omega, by omega, hm2.le_trans hmm8, hxv2.mono hmm8, hyv2.mono hmm8, hR2, C.noL⟩, Nat.le_of_eq (by show ((l.length : Int) - ((j : Int) + 1)).toNat + 1 = ((l.length : Int) - (j : Int)).toNat; omega)⟩
  · rw [if_neg hk2]
    refine ⟨[], facts_nil _ _, fun w43 L44 h43 g43 => ?_⟩
    refine (c_OwnV a.v).call (As := [_, _]) (D.hidL h43 g43) hav fun v1 m0' w46 hk0 hm0' hv1 C => ⟨_, _, _, _, _, _, rfl, hk0, facts_nil _ _, ?_⟩
    refine (c_Accept b x a.bn v1).call (As := [_]) C hv1.1 fun v2 m1' w54 hk1 hm1' hv2 C => ⟨_, rfl, hk1, facts_nil _ _, ?_⟩
    refine (c_rAccept w11.heap.size y has a.bn a.v).call (As := [_]) C.swap trivial fun _ m2' w57 hk2' hm2' _ C => ⟨_, rfl, hk2', facts_nil _ _, ?_⟩
    replace C := C.swap
    have hR2 := hR.acc a.bn (u := v2) (v := a.v) (hv2.2.trans hv1.2)
    have hm02 := hm0'.le_trans (hm1'.le_trans hm2')
    have hm2 := hmm.le_trans hm02
    have hxv2 : VlM m2' (accF x a.bn v2).v := by
      unfold accF; split
      · exact hv2.1.mono hm2'
      · exact hxv.mono hm02
    have hyv2 : VlM m2' (accF y a.bn a.v).v := by
      unfold accF; split
      · exact hav.mono hm02
      · exact hyv.mono hm02
    rw [hR.prep1 a.bn]
    generalize accF x a.bn v2 = x2 at C hR2 hxv2
    generalize accF y a.bn a.v = y2 at C hR2 hyv2
    generalize hhas : (has || (prepF y a.bn).1) = has2 at C hR2
    refine (c_Held b x2).call (As := [_]) C hxv2 fun u m5 w120 hk5 hm5 hu C => ⟨_, _, _, _, _, _, _, _, rfl, hk5, _, rF C.swap, ?_⟩
    rw [if_pos (by simp)]
    refine ⟨y2.pr, by simp, fun w138 L139 h138 g138 => ?_⟩
    refine (c_Promised b x2).call (As := [_]) (C.hidL h138 g138) trivial fun _ m6 w141 hk6 hm6 _ C => ⟨_, rfl, hk6, rF C.swap, _, rF C.swap, fun _ h => h, ?_⟩
    rw [if_pos (by simp [hR2.pr])]
    refine ⟨y2.ac, by simp, ?_⟩
    rw [if_pos (by simp [hR2.ac])]
    refine ⟨has2, by simp, ?_⟩
    rw [if_pos (by rw [hR2.has, hR2.ac]; simp)]
    refine ⟨y2.v.mq.1, y2.v.ms.length, y2.v.mq.2, y2.v.tq.1, y2.v.ts.length, y2.v.tq.2, by simp, ?_⟩
    refine (c_RefV u).call (As := _) C (hu.1.mono hm6) fun t m7 w160 hk7 hm7 ht C => ⟨_, _, _, _, _, _, rfl, hk7, rF C.swap, ?_⟩
    have hyv3 := hyv2.mono (hm5.le_trans (hm6.le_trans hm7))
    refine (c_rSameV t y2.v).call (As := _) C ⟨ht.1, hyv3⟩ fun _ m8 w168 hk8 hm8 _ C => ⟨_, rfl, hk8, rF C.swap, ?_⟩
    have heq : t.er = y2.v.er := by
      rw [ht.2, hu.2, hR2.ac]
      by_cases h0 : y2.ac = 0
      · rw [if_pos h0, hR2.no h0]
      · rw [if_neg h0, hR2.yes h0]
    rw [if_neg (by simp [heq]), w_i64 (n := (j : Int) + 1) (by omega) (by omega)]
    have hmm8 := hm5.le_trans (hm6.le_trans (hm7.le_trans hm8))
    exact ⟨⟨j + 1, x2, y2, has2, m8, by omega, by omega, hm2.le_trans hmm8, hxv2.mono hmm8, hyv2.mono hmm8, hR2, C.noL⟩, Nat.le_of_eq (by show ((l.length : Int) - ((j : Int) + 1)).toNat + 1 = ((l.length : Int) - (j : Int)).toNat; omega)⟩
end Go.Proofs
