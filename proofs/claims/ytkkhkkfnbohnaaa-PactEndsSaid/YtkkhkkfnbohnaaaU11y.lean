import Derived.Test.YtkkhkkfnbohnaaaU11m
set_option linter.unusedVariables false
set_option linter.unusedSimpArgs false
set_option maxRecDepth 10000
namespace Go.Proofs
open Go X RowKit
section
variable {F0 : List Nat} {m0 : Mem} {w0 w : World} {L : List Nat} {m : Mem} {As : List Asn} {F : Fc} {fb i : Nat}
theorem putA {c : Asn} {z : Option Ac1} (C : Ctx F0 m0 w0 w L m (c :: ((F.aR ++ F.pR) ++ aL z))) (hi : i < 5) : Ctx F0 m0 w0 w L m (c :: ((F.setA i z).aR ++ (F.setA i z).pR)) := by
  refine backA (Ctx.left (Bs := aL (F.a i)) (C.perm ?_)) hi
  refine List.Perm.trans ?_ (List.Perm.append_right _ List.perm_middle.symm)
  refine List.Perm.cons _ ?_
  have h1 := (F.aR_pick hi)
  calc (F.aR ++ F.pR ++ aL z).Perm ((aL (F.a i) ++ F.aO i) ++ F.pR ++ aL z) := (h1.append_right _).append_right _
    _ = aL (F.a i) ++ (F.aO i ++ F.pR ++ aL z) := by simp
    _ |>.Perm ((F.aO i ++ F.pR ++ aL z) ++ aL (F.a i)) := List.perm_append_comm
    _ |>.Perm ((aL z ++ (F.aO i ++ F.pR)) ++ aL (F.a i)) := List.perm_append_comm.append_right _
theorem fcV (C : Ctx F0 m0 w0 w L m (blk fb F.cells 94 :: As)) (hi : i < 5) : FactsW [(⟨fb, 11 + i * 2, none⟩, (F.v i).row)] w L := C.blkFact (11 + i * 2) (F.v i).row (Fc.cellV hi) (facts_nil _ _)
end
theorem ok_n {e : Fe} {s : St} {top : Int} : (stepE e s top).1.n = e.n := by
  unfold stepE; (repeat' split) <;> rfl
theorem top_n {e : Fe} {s : St} {top : Int} : top ≤ (stepE e s top).2 ∧ (stepE e s top).2 ≤ top + 1 := by
  unfold stepE; (repeat' split) <;> simp <;> omega
theorem phO_er (z : Option Pp1) : phO z = (match poE z with | none => 0 | some e => e.ph) := by cases z <;> rfl
def fc0 (n : Nat) : Fc := ⟨n, fun _ => none, fun _ => none, fun _ => vl0, fun _ => false⟩
/-- a field at its beginning -/
structure Fc.beg (F : Fc) (n j : Nat) : Prop where
  n : F.n = n
  a : ∀ i, i < j → ∃ b, F.a i = some (b, acp0)
  z : ∀ i, j ≤ i → F.a i = none
  p : ∀ i, F.p i = none
  v : ∀ i, F.v i = vl0
  w : ∀ i, F.w i = false
theorem Fc.beg.M {F : Fc} {n : Nat} (h : F.beg n 5) (m : Mem) : F.M m :=
  ⟨fun i z e => by
    by_cases hi : i < 5
    · obtain ⟨b, hb⟩ := h.a i hi
      rw [hb] at e; injection e with e; subst e; exact vl0_M m
    · rw [h.z i (by omega)] at e; exact (nomatch e), fun i => by rw [h.p i]; trivial, fun i => by rw [h.v i]; exact vl0_M m⟩
theorem Fc.beg.ok {F : Fc} {n : Nat} (h : F.beg n 5) (h1 : 1 ≤ n) (h5 : n ≤ 5) : F.ok := ⟨by rw [h.n]; exact h1, by rw [h.n]; exact h5, fun i hi => by obtain ⟨b, hb⟩ := h.a i hi; exact ⟨_, hb⟩⟩
theorem Fc.beg.inv {F : Fc} {n : Nat} (h : F.beg n 5) (h1 : 1 ≤ n) (h5 : n ≤ 5) : Inv F.er 0 (fun _ => none) (fun _ _ => False) := by
  have ha : ∀ i, F.er.a i = ⟨0, 0, ([], [])⟩ := fun i => by
    show aE (F.a i) = _
    by_cases hi : i < 5
    · obtain ⟨b, hb⟩ := h.a i hi
      rw [hb]; rfl
    · rw [h.z i (by omega)]; rfl
  have hn : F.er.n = n := h.n
  refine ⟨by rw [hn]; exact h1, by rw [hn]; exact h5, by omega, fun i => by rw [ha]; simp, fun i hi => by rw [ha] at hi; simp at hi, fun i b hb => hb.elim, fun b v hb => (nomatch hb), fun i q hi hq => ?_, fun i q hi hq => ?_, fun i hi hw => ?_, fun b v hb => (nomatch hb)⟩
  · have : F.er.p i = none := by show poE (F.p i) = none; rw [h.p i]; rfl
    rw [this] at hq; cases hq
  · have : F.er.p i = none := by show poE (F.p i) = none; rw [h.p i]; rfl
    rw [this] at hq; cases hq
  · have : F.er.w i = false := h.w i
    rw [this] at hw; cases hw
theorem Fc.beg.next {F : Fc} {n j : Nat} (h : F.beg n j) (b : Nat) : (F.setA j (some (b, acp0))).beg n (j + 1) :=
  ⟨h.n, fun i hi => by
    show ∃ b', upd F.a j (some (b, acp0)) i = some (b', acp0)
    unfold upd
    split
    · exact ⟨b, rfl⟩
    · exact h.a i (by omega), fun i hi => by show upd F.a j _ i = none; rw [upd_ne _ _ (by omega)]; exact h.z i (by omega), h.p, h.v, h.w⟩
set_option maxHeartbeats 4000000 in
theorem l_PactOne (w : World) (n : Int) (q : Sl) (l : List St) (hm : MSrc (memOf w) 5 (slV q l.length) l.length (l.flatMap St.row)) :
    Calls Try.prog 6 #[.int .i64 n, slV q l.length] w (LawR w) := by
  refine x_PactOne _ _ _ _ w _ ?_
  have C := lawStart w
  by_cases hl : l.length ≤ 150
  rotate_left
  · rw [if_neg (by simp; omega)]
    exact c_knows.call (As := []) C trivial fun _ m2 w5 hk hm2 _ C => ⟨_, rfl, hk.size, rfl, C.at_⟩
  rw [if_pos (by simp; omega)]
  refine c_knows.call (As := []) C trivial fun _ m2 w5 hk hm2 _ C => ⟨_, rfl, hk.size, ?_⟩
  rw [if_neg (by decide)]
  have e5 : IntKind.wrap .i64 (1 + ((IntKind.i64.wrap (n.tmod 5 + 5)).tmod 5)) = ((ix 5 n + 1 : Nat) : Int) := by
    have h1 : (IntKind.i64.wrap (n.tmod 5 + 5)).tmod 5 = (ix 5 n : Nat) := ix_eq (n := 5) (by omega) (by omega) n
    have h2 : ix 5 n < 5 := ix_lt (by omega) _
    rw [h1, w_i64 (by omega) (by omega)]; omega
  rw [e5]
  have hN : ix 5 n + 1 ≤ 5 := by have : ix 5 n < 5 := ix_lt (by omega) n; omega
  have hN1 : 1 ≤ ix 5 n + 1 := by omega
  generalize ix 5 n + 1 = N at *
  clear e5
  have D0 : Ctx [] (memOf w) w _ [] m2 ((fc0 N).as w5.heap.size) := C.noL.alloc (fc0 N).cells 94
  clear C
  simp only [Addr.add_mid, Nat.mul_one, Nat.zero_add]
  generalize w5.heap.size = fb at *
  refine ⟨fun i w' L' => ∃ (j : Nat) (F : Fc) (m' : Mem), i = j ∧ j ≤ 5 ∧ F.beg N j ∧ m2.le m' ∧ Ctx [] (memOf w) w w' L' m' (F.as fb), fun i _ => (5 - i).toNat, ⟨0, fc0 N, m2, rfl, by omega, ⟨rfl, by simp, fun _ _ => rfl, fun _ => rfl, fun _ => rfl, fun _ => rfl⟩, Mem.le_refl _, D0⟩, ?_⟩
  clear D0
  rintro i w10 L11 _ ⟨j, F, m3, rfl, hj, hb, hm3, C⟩
  by_cases hj5 : j < 5
  · rw [if_pos (by simp; omega)]
    refine ⟨[], facts_nil _ _, fun w97 h97 => ?_⟩
    refine c_NewAcc.call (As := F.as fb) (C.noL.hid0 h97) trivial fun b m4 w99 hk hm4 _ C => ⟨_, rfl, hk.size, by omega, by omega, ?_⟩
    have C1 : Ctx [] (memOf w) w w99 [] m4 (blk fb F.cells 94 :: ((F.aR ++ F.pR) ++ [aA b acp0])) := C.perm (List.perm_append_comm (l₁ := [aA b acp0]) (l₂ := F.as fb))
    have C2 := putA (z := some (b, acp0)) (i := j) (F := F) (storeA C1 hj5 (some (b, acp0))) hj5
    rw [Int.toNat_natCast]
    refine ⟨trivial, C1.there (1 + j) 1 (by rw [F.len]; omega), ?_⟩
    have e : IntKind.wrap .i64 ((j : Int) + 1) = ((j + 1 : Nat) : Int) := by rw [w_i64 (by omega) (by omega)]; omega
    rw [e]
    exact ⟨⟨j + 1, _, m4, rfl, hj5, hb.next b, hm3.le_trans hm4, C2⟩, Nat.le_of_eq (by show ((5 : Int) - ((j + 1 : Nat) : Int)).toNat + 1 = ((5 : Int) - (j : Int)).toNat; omega)⟩
  rw [if_neg (by simp; omega)]
  have hj2 : j = 5 := by omega
  subst hj2
  intro w12 L13 h12 g12
  have C := C.noL.hidL h12 g12
  refine ⟨fun top done i q1 k1 c1 q2 k2 c2 w' L' => ∃ (j : Nat) (F : Fc) (m' : Mem) (prop : Int → Option VE) (vote : Nat → Int → Prop) (vv : Vl), i = j ∧ j ≤ l.length ∧ 0 ≤ top ∧ top ≤ j ∧ m2.le m' ∧ F.ok ∧ F.M m' ∧ Inv F.er top prop vote ∧ vv.mq = (q1, c1) ∧ vv.ms.length = k1 ∧ vv.tq = (q2, c2) ∧ vv.ts.length = k2 ∧ VlM m' vv ∧ (done = true → ∃ b, Chosen F.n prop vote b vv.er) ∧ Ctx [] (memOf w) w w' L' m' (F.as fb),
    fun _ _ i _ _ _ _ _ _ _ => ((l.length : Int) - i).toNat, ⟨0, F, m3, _, _, vl0, rfl, by omega, by omega, by omega, hm3, hb.ok hN1 hN, hb.M m3, hb.inv hN1 hN, rfl, rfl, rfl, rfl, vl0_M _, by simp, C⟩, ?_⟩
  clear C hb hm3
  rintro top done i q1 k1 c1 q2 k2 c2 w25 L26 _ ⟨j, F1, m4, prop, vote, vv, rfl, hjl, ht0, htj, hm4, hF, hM, hI, e1, rfl, e2, rfl, hvv, hdn, C⟩
  by_cases hjl2 : j < l.length
  rotate_left
  · rw [if_neg (by simp; omega)]
    exact ⟨rfl, C.at_⟩
  rw [if_pos (by simp; omega)]
  obtain ⟨a0, ha0, hc⟩ := (hm.mono (hm2.le_trans hm4)).elem st_len hjl2
  refine ⟨by omega, by simpa using hjl2, ?_⟩
  rw [ha0, onSome_some]
  refine ⟨_, _, _, _, _, by rw [Int.toNat_natCast]; exact C.cells hc, by rw [Int.toNat_natCast]; exact C.cellsL hc, ?_⟩
  refine call0 (c_step F1 fb l[j] top hF ⟨ht0, by omega⟩) C hM fun G m5 w34 hk hm5 hG C => ⟨_, rfl, hk, ?_⟩
  obtain ⟨hMG, hoG, heG⟩ := hG
  obtain ⟨prop', vote', hI', hp', hv'⟩ := inv_step hI l[j]
  obtain ⟨hn1, hn2⟩ := top_n (e := F1.er) (s := l[j]) (top := top)
  have hGn : G.n = F1.n := by
    have := congrArg Fe.n heG
    rw [ok_n] at this
    exact this
  rw [← heG] at hI'
  have hdn' : done = true → ∃ b, Chosen G.n prop' vote' b vv.er := fun hd => by
    obtain ⟨b, c1, Q, c2, c3⟩ := hdn hd
    exact ⟨b, hp' _ _ c1, Q, by rw [hGn]; exact c2, fun i hi => hv' _ _ (c3 i hi)⟩
  generalize (stepE F1.er l[j] top).2 = top2 at *
  refine ⟨fun done k q1 k1 c1 q2 k2 c2 w' L' => ∃ (kk : Nat) (m' : Mem) (vv : Vl), k = kk ∧ kk ≤ G.n ∧ m5.le m' ∧ vv.mq = (q1, c1) ∧ vv.ms.length = k1 ∧ vv.tq = (q2, c2) ∧ vv.ts.length = k2 ∧ VlM m' vv ∧ (done = true → ∃ b, Chosen G.n prop' vote' b vv.er) ∧ Ctx [] (memOf w) w w' L' m' (G.as fb),
    fun _ k _ _ _ _ _ _ _ => ((G.n : Int) - k).toNat, ⟨0, m5, vv, rfl, by omega, Mem.le_refl _, e1, rfl, e2, rfl, hvv.mono hm5, hdn', C⟩, ?_⟩
  clear C hdn hdn' hvv
  rintro b38 k q40 k41 k42 q43 k44 k45 w46 L47 _ ⟨kk, m6, vk, rfl, hkn, hm6, f1, rfl, f2, rfl, hvk, hd, C⟩
  have hw : IntKind.wrap .i64 ((kk : Int) + 1) = ((kk + 1 : Nat) : Int) := by have := hoG.n5; rw [w_i64 (by omega) (by omega)]; omega
  refine ⟨G.n, C.blkCell (j := 0) rfl, C.blkAt.2, ?_⟩
  by_cases hkn2 : kk < G.n
  rotate_left
  · rw [if_neg (by simp; omega)]
    have e : IntKind.wrap .i64 ((j : Int) + 1) = ((j + 1 : Nat) : Int) := by rw [w_i64 (by omega) (by omega)]; omega
    rw [e]
    exact ⟨⟨j + 1, G, m6, prop', vote', vk, rfl, hjl2, by omega, by omega, hm4.le_trans (hm5.le_trans hm6), hoG, hMG.mono hm6, hI', f1, rfl, f2, rfl, hvk, hd, C⟩, Nat.le_of_eq (by show ((l.length : Int) - ((j + 1 : Nat) : Int)).toNat + 1 = ((l.length : Int) - (j : Int)).toNat; omega)⟩
  rw [if_pos (by simp; omega)]
  have hk5 : kk < 5 := by have := hoG.n5; omega
  simp only [Int.toNat_natCast]
  refine ⟨by omega, by omega, _, C.blkCell (Fc.cellP hk5), C.blkAt.2, ?_⟩
  refine call0 (f_Phase hk5) C trivial fun _ m7 w51 hk hm7 _ C => ⟨_, rfl, hk, ?_⟩
  have hdec : ((G.n : Int) - ((kk + 1 : Nat) : Int)).toNat + 1 = ((G.n : Int) - (kk : Int)).toNat := by omega
  by_cases hph : phO (G.p kk) = 2
  rotate_left
  · rw [if_pos (by simpa using hph), hw]
    exact ⟨⟨kk + 1, m7, vk, rfl, hkn2, hm6.le_trans hm7, f1, rfl, f2, rfl, hvk.mono hm7, hd, C⟩, Nat.le_of_eq hdec⟩
  rw [if_neg (by simpa using hph)]
  obtain ⟨pq, hpq, hp2⟩ : ∃ e, G.er.p kk = some e ∧ e.ph = 2 := by
    cases h : G.p kk with
    | none => rw [h] at hph; simp [phO] at hph
    | some z => rw [h] at hph; exact ⟨z.2.2.er, by show poE (G.p kk) = _; rw [h]; rfl, hph⟩
  obtain ⟨hch, hvq⟩ := decided hI' (by exact hkn2) hpq hp2
  refine ⟨by omega, by omega, _, C.blkCell (Fc.cellP hk5), C.blkAt.2, ?_⟩
  refine call0 (f_Value hk5) C ((hMG.p kk).mono (hm6.le_trans hm7)) fun u m8 w55 hk hm8 hu C => ⟨_, _, _, _, _, _, rfl, hk, _, fcV C hk5, ?_⟩
  have hue : u.er = pq.ch := by
    have : poE (G.p kk) = some pq := hpq
    rw [hu.2, this]; rfl
  have hvG : (G.v kk).er = u.er := by rw [hue]; exact hvq
  have hVk := hMG.v kk
  have hm58 := hm6.le_trans (hm7.le_trans hm8)
  by_cases hb : b38 = true
  · rw [if_pos (by simp [hb])]
    obtain ⟨b, hcb⟩ := hd hb
    have hag : u.er = vk.er := by rw [hue]; exact (agree hI' hch (by exact hcb))
    intro w78 L79 h78 g78
    have hS1 := c_SameV u vk
    simp only [Vl.row, f1, f2] at hS1
    refine hS1.call (As := G.as fb) (C.hidL h78 g78) ⟨hu.1, hvk.mono (hm7.le_trans hm8)⟩ fun _ m9 w81 hk hm9 _ C => ⟨_, rfl, hk, fcV C hk5, _, fcV C hk5, fun _ h => h, ?_⟩
    rw [if_pos (by simp [hag])]
    refine ⟨by omega, by omega, (G.v kk).mq.1, (G.v kk).ms.length, (G.v kk).mq.2, (G.v kk).tq.1, (G.v kk).ts.length, (G.v kk).tq.2, by simp, ?_⟩
    refine (c_SameV u (G.v kk)).call (As := G.as fb) C ⟨hu.1.mono hm9, hVk.mono (hm58.le_trans hm9)⟩ fun _ m10 w92 hk hm10 _ C => ⟨_, rfl, hk, fcV C hk5, ?_⟩
    rw [if_neg (by simp [hvG])]
    intro w94 L95 h94 g94
    rw [hw]
    exact ⟨⟨kk + 1, m10, u, rfl, hkn2, hm58.le_trans (hm9.le_trans hm10), rfl, rfl, rfl, rfl, hu.1.mono (hm9.le_trans hm10), fun _ => ⟨_, by rw [hue]; exact hch⟩, C.hidL h94 g94⟩, Nat.le_of_eq hdec⟩
  · rw [if_neg (by simpa using hb)]
    refine ⟨_, fcV C hk5, fun _ h => h, by omega, by omega, (G.v kk).mq.1, (G.v kk).ms.length, (G.v kk).mq.2, (G.v kk).tq.1, (G.v kk).ts.length, (G.v kk).tq.2, by simp, fun w71 L72 h71 g71 => ?_⟩
    refine (c_SameV u (G.v kk)).call (As := G.as fb) (C.hidL h71 g71) ⟨hu.1, hVk.mono hm58⟩ fun _ m10 w92 hk hm10 _ C => ⟨_, rfl, hk, fcV C hk5, ?_⟩
    rw [if_neg (by simp [hvG])]
    intro w94 L95 h94 g94
    rw [hw]
    exact ⟨⟨kk + 1, m10, u, rfl, hkn2, hm58.le_trans hm10, rfl, rfl, rfl, rfl, hu.1.mono hm10, fun _ => ⟨_, by rw [hue]; exact hch⟩, C.hidL h94 g94⟩, Nat.le_of_eq hdec⟩
end Go.Proofs
