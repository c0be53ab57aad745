import Derived.Test.YtmfmihkjkgifiaaU10s
set_option linter.unusedVariables false
set_option linter.unusedSimpArgs false
set_option maxRecDepth 10000
namespace Go.Proofs
open Go X RowKit
theorem l_LinkPlays (w : World) (mn ml pn pl first again : Int) (h0 : 0 ≤ first) (h1 : first < 18446744073709551616) (q : Option Addr) (c : Nat) (l : List Al) (hl : ∀ a ∈ l, AlM (memOf w) a)
    (hm : MSrc (memOf w) 11 (.slice q l.length c) l.length (l.flatMap Al.row)) :
    Calls Try.prog 3 #[.agg #[.int .u8 mn, .int .u16 ml], .agg #[.int .u8 pn, .int .u16 pl], .int .u64 first, .int .i64 again, .slice q l.length c] w (LawR w) := by
  refine x_gemotlaw10_LinkPlays _ _ _ _ _ _ _ _ _ w _ fun w1 L2 h1' g1 => ?_
  have C := (lawStart w).hidL h1' g1
  refine (c_light l q c).call C hm fun v m1 w4 hk hm1 _ C => ⟨_, rfl, hk, ?_⟩
  obtain ⟨v, hv⟩ := v
  cases v with
  | false =>
    rw [if_neg (by simp)]
    refine c_knows.call (As := []) C trivial fun _ m2 w7 hk hm _ C => ⟨true, rfl, hk, rfl, C.at_⟩
  | true =>
  rw [if_pos (by simp)]
  obtain ⟨hn, hlen⟩ := hv rfl
  refine c_knows.call (As := []) C trivial fun _ m2 w10 hk hm2 _ C => ⟨true, rfl, hk, ?_⟩
  rw [if_neg (by simp)]
  have hmm := hm1.le_trans hm2
  have hAll : ∀ a ∈ l, BrM m2 a.b ∧ BrM m2 a.p.b := fun a ha => by
    have h := hl a ha
    have h5 := hlen a ha
    exact ⟨⟨h.b.mono hmm, by omega⟩, ⟨h.p.mono hmm, by omega⟩⟩
  have hS := hm.mono hmm
  clear hm hm1 hm2
  refine ⟨[], facts_nil _ _, fun w13 L14 h13 g13 => ?_⟩
  replace C := C.hidL h13 g13
  refine C.gives (c_Proc mn ml) fun w16 k16 C => ⟨_, _, rfl, k16, facts_nil _ _, ?_⟩
  refine C.gives (c_Proc pn pl) fun w20 k20 C => ⟨_, _, rfl, k20, facts_nil _ _, ?_⟩
  refine (c_New mn ml pn pl first again).call (As := []) C trivial fun b1 m3 w24 hk3 hm3 _ C => ⟨_, rfl, hk3, facts_nil _ _, ?_⟩
  refine (c_rNew mn ml pn pl first again).call (As := [lkA b1 (lk0 mn ml pn pl first again)]) C trivial fun b2 m4 w27 hk4 hm4 _ C => ⟨_, rfl, hk4, ?_⟩
  have hm34 := hm3.le_trans hm4
  replace hAll : ∀ a ∈ l, BrM m4 a.b ∧ BrM m4 a.p.b := fun a ha => ⟨(hAll a ha).1.mono hm34, (hAll a ha).2.mono hm34⟩
  replace hS := hS.mono hm34
  let I : World → List Nat → Prop := fun w' L' => ∃ (x r : Lk) (m : Mem), Good x r ∧ LkM m x ∧ LkM m r ∧ m4.le m ∧ Ctx [] (memOf w) w w' L' m [rlA b2 r, lkA b1 x]
  refine ⟨fun n w' L' => ∃ i : Nat, n = i ∧ i ≤ l.length ∧ I w' L', fun n _ => (l.length - n).toNat, ⟨0, rfl, by omega, _, _, m4, Good.start mn ml pn pl first again h0 h1, ⟨by simp, by simp⟩, ⟨by simp, by simp⟩, Mem.le_refl _, C⟩, ?_⟩
  clear C
  rintro n w32 L33 _ ⟨i, rfl, hi, hI⟩
  by_cases hlt : i < l.length
  rotate_left
  · rw [if_neg (by simpa using hlt)]
    obtain ⟨x, r, m, _, _, _, _, C⟩ := hI
    exact ⟨rfl, C.at_⟩
  rw [if_pos (by simpa using hlt)]
  refine ⟨by omega, by simpa using hlt, ?_⟩
  obtain ⟨pa, rfl, hcell⟩ := hS.elem al_len hlt
  rw [onSome_some]
  have ha := hl _ (List.getElem_mem hlt)
  have hab := hAll _ (List.getElem_mem hlt)
  obtain ⟨x0, r0, m0, hG0, hx0, hr0, hm0, C0⟩ := hI
  refine ⟨l[i].kd, l[i].at_, l[i].b.q, l[i].b.bs.length, l[i].b.c, l[i].p.fn, l[i].p.fl, l[i].p.tn, l[i].p.tl, l[i].p.seq, l[i].p.ack, l[i].p.has, l[i].p.b.q, l[i].p.b.bs.length, l[i].p.b.c, C0.cells (hcell.mono hm0), C0.cellsL (hcell.mono hm0), ?_⟩
  refine ⟨fun ok _ _ _ _ _ _ _ _ _ _ _ _ _ _ _ w' L' => ok = true ∧ I w' L', ?_, ?_⟩
  · -- each way
    have eBr1 : BrM m0 l[i].b := hab.1.mono hm0
    have eBr2 : BrM m0 l[i].p.b := hab.2.mono hm0
    -- a send
    have wSend : ∀ Φ : Bool → World → List Nat → Prop, (∀ w' L', I w' L' → Φ true w' L') → ∃ x : Facts, FactsW x w32 L33 ∧ ∀ w' L', Hid L33 w32 w' → NewL w.heap.size L33 w32 w' L' →
        CallX Try.prog 13 #[.pointer (some ⟨b1, 0, none⟩), l[i].b.V] w' fun e w2 => ∃ n, e = .returned (.int .i64 n) ∧ Kept L' w' w2 ∧ FactsW x w2 L' ∧
          CallX Try.prog 12 #[.int .i64 n] w2 fun e w3 => ∃ n2, e = .returned (.int .i64 n2) ∧ Kept L' w2 w3 ∧ FactsW x w3 L' ∧
            CallX Try.prog 14 #[.pointer (some ⟨b2, 0, none⟩), l[i].b.V] w3 fun e w4 => ∃ n3, e = .returned (.int .i64 n3) ∧ Kept L' w3 w4 ∧ FactsW x w4 L' ∧ Φ (n2 == n3) w4 L' := by
      intro Φ hΦ
      refine ⟨[], facts_nil _ _, fun w' L' hh gg => ?_⟩
      have C1 := (C0.hidL hh gg).swap
      refine (c_Send b1 x0 l[i].b).call C1 ⟨eBr1, hx0⟩ fun nb m5 w2 hk hm5 hs C2 => ⟨_, rfl, hk, facts_nil _ _, ?_⟩
      obtain ⟨hs1, hs2, hs3⟩ := hs
      refine C2.gives (c_num _) fun w3 k3 C3 => ⟨_, rfl, k3, facts_nil _ _, ?_⟩
      refine (c_rSend b2 r0 l[i].b).call C3.swap ⟨eBr1.mono hm5, hr0.mono hm5⟩ fun nb2 m6 w4 hk hm6 hs' C4 => ⟨_, rfl, hk, facts_nil _ _, ?_⟩
      obtain ⟨hr1, hr2, hr3⟩ := hs'
      rw [hG0.sendE, beq_self_eq_true]
      exact hΦ _ _ ⟨_, _, m6, hG0.sent (hs1.trans hr1.symm), hs3.mono hm6, hr3, (hm0.le_trans hm5).le_trans hm6, C4⟩
    have wOut : ∀ Φ : Bool → World → List Nat → Prop, (∀ w' L', I w' L' → Φ true w' L') → ∃ x : Facts, FactsW x w32 L33 ∧ ∀ w' L', Hid L33 w32 w' → NewL w.heap.size L33 w32 w' L' →
        CallX Try.prog 16 #[.pointer (some ⟨b1, 0, none⟩), .int .i64 l[i].at_] w' fun e w2 => ∃ q k c, e = .returned (.slice q k c) ∧ Kept L' w' w2 ∧ FactsW x w2 L' ∧
          CallX Try.prog 17 #[.pointer (some ⟨b2, 0, none⟩), .int .i64 l[i].at_] w2 fun e w3 => ∃ q2 k2 c2, e = .returned (.slice q2 k2 c2) ∧ Kept L' w2 w3 ∧ FactsW x w3 L' ∧
            CallX Try.prog 15 #[.slice q k c, .slice q2 k2 c2] w3 fun e w4 => ∃ b, e = .returned (.bool b) ∧ Kept L' w3 w4 ∧ FactsW x w4 L' ∧ Φ b w4 L' := by
      intro Φ hΦ
      refine ⟨[], facts_nil _ _, fun w' L' hh gg => ?_⟩
      have C1 := (C0.hidL hh gg).swap
      refine (c_Out b1 x0 l[i].at_ hG0.w32).call C1 hx0 fun o m5 w2 hk hm5 ho C2 => ⟨_, _, _, rfl, hk, facts_nil _ _, ?_⟩
      obtain ⟨ho1, ho2, ho3⟩ := ho
      have C3 := C2.pm [2, 1, 0] rfl
      simp only [sel, nth, List.append_nil, List.cons_append, List.nil_append] at C3
      refine (c_rOut b2 r0 l[i].at_ (by rw [hG0.W]; exact hG0.w32)).call C3 (hr0.mono hm5) fun o2 m6 w3 hk hm6 ho' C4 => ⟨_, _, _, rfl, hk, facts_nil _ _, ?_⟩
      obtain ⟨hp1, hp2, hp3⟩ := ho'
      have hol : o.1.length ≤ 8 := by have := congrArg List.length ho1; rw [List.length_map] at this; have := outs_le x0 l[i].at_; omega
      have C5 := C4.pm [2, 1, 0, 3] rfl
      simp only [sel, nth, List.append_nil, List.cons_append, List.nil_append] at C5
      refine (c_packets o.1 o2.1 o.2 o2.2 (by rw [ho1, hp1, hG0.outs]) (by omega)).call C5 ⟨fun p hp => (ho2 p hp).mono hm6, hp2⟩ fun _ m7 w4 hk hm7 _ C6 => ⟨true, rfl, hk, facts_nil _ _, ?_⟩
      exact hΦ _ _ ⟨_, _, m7, hG0.told _, (ho3.mono hm6).mono hm7, hp3.mono hm7, ((hm0.le_trans hm5).le_trans hm6).le_trans hm7, C6.pk [2, 3] [0, 1] rfl⟩
    have wHear : ∀ p : Pk, BrM m0 p.b → 0 ≤ p.seq → p.seq < 18446744073709551616 → ∀ Φ : Bool → World → List Nat → Prop, (∀ w' L', I w' L' → Φ true w' L') → ∃ x : Facts, FactsW x w32 L33 ∧ ∀ w' L', Hid L33 w32 w' → NewL w.heap.size L33 w32 w' L' →
        CallX Try.prog 20 #[p.V] w' fun e w1 => ∃ n1 n2 n3 n4 n5 n6 b7 q8 k8 c8, e = .returned (.agg #[.int .u8 n1, .int .u16 n2, .int .u8 n3, .int .u16 n4, .int .u64 n5, .int .u64 n6, .bool b7, .slice q8 k8 c8]) ∧ Kept L' w' w1 ∧ FactsW x w1 L' ∧
        CallX Try.prog 19 #[.pointer (some ⟨b1, 0, none⟩), .agg #[.int .u8 n1, .int .u16 n2, .int .u8 n3, .int .u16 n4, .int .u64 n5, .int .u64 n6, .bool b7, .slice q8 k8 c8]] w1 fun e w2 => ∃ q k c, e = .returned (.slice q k c) ∧ Kept L' w1 w2 ∧ FactsW x w2 L' ∧
          CallX Try.prog 21 #[.pointer (some ⟨b2, 0, none⟩), p.V] w2 fun e w3 => ∃ q2 k2 c2, e = .returned (.slice q2 k2 c2) ∧ Kept L' w2 w3 ∧ FactsW x w3 L' ∧
            CallX Try.prog 18 #[.slice q k c, .slice q2 k2 c2] w3 fun e w4 => ∃ b, e = .returned (.bool b) ∧ Kept L' w3 w4 ∧ FactsW x w4 L' ∧ Φ b w4 L' := by
      intro p hp hs0 hs1 Φ hΦ
      refine ⟨[], facts_nil _ _, fun w' L' hh gg => ?_⟩
      refine (c_Packet p).call (Cs := []) (C0.hidL hh gg) hp fun nb m5 w1 hk hm5 hnb C1 => ⟨_, _, _, _, _, _, _, _, _, _, rfl, hk, facts_nil _ _, ?_⟩
      have C1 : Ctx [] (memOf w) w w1 L' m5 [rlA b2 r0, lkA b1 x0] := C1
      refine (c_Hear b1 x0 { p with b := nb } hG0.w32 (by have := hG0.E; omega)).call C1.swap ⟨hnb.2, hx0.mono hm5⟩ fun o m6 w2 hk hm6 ho C2 => ⟨_, _, _, rfl, hk, facts_nil _ _, ?_⟩
      obtain ⟨ho1, ho2, ho3⟩ := ho
      have C3 := C2.pm [2, 1, 0] rfl
      simp only [sel, nth, List.append_nil, List.cons_append, List.nil_append] at C3
      refine (c_rHear b2 r0 p (by rw [hG0.W]; have := hG0.w32; omega) hG0.inv hs0 hs1).call C3 ⟨(hp.mono hm5).mono hm6, (hr0.mono hm5).mono hm6⟩ fun o2 m7 w3 hk hm7 ho' C4 => ⟨_, _, _, rfl, hk, facts_nil _ _, ?_⟩
      obtain ⟨hp1, hp2, hp3⟩ := ho'
      obtain ⟨g1, g2⟩ := hG0.heard p (n := o.1) (n' := o2.1) (by rw [ho1, hp1]; exact hnb.1) hs0 hs1
      have hll : (x0.heard p o.1).1.length ≤ 1000000 := by have := heard_len x0 p o.1; have := hG0.E; omega
      have C5 := C4.pm [2, 1, 0, 3] rfl
      simp only [sel, nth, List.append_nil, List.cons_append, List.nil_append] at C5
      refine (c_bodies (x0.heard p o.1).1 (r0.heard p o2.1).1 o.2 o2.2 g2 hll).call C5 ⟨fun d hd => (ho2 d hd).mono hm7, hp2⟩ fun _ m8 w4 hk hm8 _ C6 => ⟨true, rfl, hk, facts_nil _ _, ?_⟩
      exact hΦ _ _ ⟨_, _, m8, g1, (ho3.mono hm7).mono hm8, hp3.mono hm8, (((hm0.le_trans hm5).le_trans hm6).le_trans hm7).le_trans hm8, C6.pk [2, 3] [0, 1] rfl⟩
    have fin : ∀ (A B : List Value) (b : Bool) (w' : World) (L' : List Nat), I w' L' → A = A ∧ B = B ∧ (true = true ∧ I w' L') := fun _ _ _ _ _ h => ⟨rfl, rfl, rfl, h⟩
    let Φ : Bool → World → List Nat → Prop := fun b w' L' => (([.int .u8 mn, .int .u16 ml] : List Value) = [.int .u8 mn, .int .u16 ml]) ∧ (([.int .u8 pn, .int .u16 pl] : List Value) = [.int .u8 pn, .int .u16 pl]) ∧ (b = true ∧ I w' L')
    have hΦ : ∀ w' L', I w' L' → Φ true w' L' := fun _ _ h => ⟨rfl, rfl, rfl, h⟩
    have hskip : ∀ w' L', Hid L33 w32 w' → NewL w.heap.size L33 w32 w' L' → Φ true w' L' := fun w' L' hh gg => hΦ _ _ ⟨x0, r0, m0, hG0, hx0, hr0, hm0, C0.hidL hh gg⟩
    by_cases k0 : l[i].kd = 0
    · rw [if_pos (by simp [k0]), if_pos (by simp [k0])]; exact wSend Φ hΦ
    rw [if_neg (by simpa using k0)]
    by_cases k1 : l[i].kd = 1
    · rw [if_pos (by simp [k1])]; exact wSend Φ hΦ
    rw [if_neg (by simpa using k1)]
    by_cases k2 : l[i].kd = 2
    · rw [if_pos (by simp [k2])]; exact wOut Φ hΦ
    rw [if_neg (by simpa using k2)]
    by_cases k3 : l[i].kd = 3
    · rw [if_pos (by simp [k3]), if_pos (by simp [k3]), if_neg (by simp [k3])]; exact wHear l[i].p eBr2 ha.s0 ha.s1 Φ hΦ
    rw [if_neg (by simpa using k3)]
    by_cases k4 : l[i].kd = 4
    · rw [if_pos (by simp [k4]), if_pos (by simp [k4])]; exact wHear { l[i].p with fn := pn, fl := pl, tn := mn, tl := ml } eBr2 ha.s0 ha.s1 Φ hΦ
    rw [if_neg (by simpa using k4)]
    exact hskip
  · -- then all looks are alike
    rintro ok _ _ _ _ _ _ _ _ _ _ _ _ _ _ _ w355 L356 _ ⟨rfl, x, r, m, hG, hx, hr, hmm, C⟩
    obtain ⟨p, q', C⟩ := rlO C
    have hf : ∀ {w' L' m'} {As' : List Asn}, Ctx [] (memOf w) w w' L' m' (blk b2 (r.row (slV p r.W.length) (slV q' r.E.length)) 60 :: As') → FactsW [(⟨b2, 7, none⟩, [slV p r.W.length]), (⟨b2, 6, none⟩, [.int .u64 r.want])] w' L' := fun C =>
      C.blkFact1 7 _ rfl (C.blkFact1 6 _ rfl (facts_nil _ _))
    refine ⟨_, hf C, ?_⟩
    rw [if_pos (by decide), onSome_some]
    refine ⟨p.1, r.W.length, p.2, by simp [Addr.add_mid, slV], fun w424 L425 h424 g424 => ?_⟩
    have C1 := (C.hidL h424 g424).pm [3, 0, 1, 2] rfl
    simp only [sel, nth, List.append_nil, List.cons_append, List.nil_append, rlAs] at C1
    refine (c_Waiting b1 x).call C1 trivial fun _ m5 w427 hk hm5 _ C2 => ⟨_, rfl, hk, hf (C2.pm [1, 2, 3, 0] rfl), _, hf (C2.pm [1, 2, 3, 0] rfl), fun _ h => h, ?_⟩
    rw [if_pos (by rw [hG.W]; simp), onSome_some]
    refine ⟨p.1, r.W.length, p.2, by simp [Addr.add_mid, slV], ?_⟩
    refine (c_Idle b1 x).call C2 trivial fun _ m6 w458 hk hm6 _ C3 => ⟨_, rfl, hk, hf (C3.pm [1, 2, 3, 0] rfl), _, hf (C3.pm [1, 2, 3, 0] rfl), fun _ h => h, ?_⟩
    rw [if_pos (by rw [hG.W]; simp), onSome_some]
    refine ⟨r.want, by simp [Addr.add_mid], ?_⟩
    refine (c_Want b1 x).call C3 trivial fun _ m7 w465 hk hm7 _ C4 => ⟨_, rfl, hk, hf (C4.pm [1, 2, 3, 0] rfl), ?_⟩
    rw [if_neg (by rw [hG.want]; simp)]
    have e : IntKind.wrap .i64 ((i : Int) + 1) = ((i + 1 : Nat) : Int) := by rw [w_i64 (by omega) (by omega)]; omega
    rw [e]
    have hm567 := (hm5.le_trans hm6).le_trans hm7
    exact ⟨rfl, rfl, ⟨i + 1, rfl, hlt, x, r, m7, hG, hx.mono hm567, hr.mono hm567, hmm.le_trans hm567, rlI p q' (C4.pm [1, 2, 3, 0] rfl)⟩, Nat.le_of_eq (by show ((l.length : Int) - ((i + 1 : Nat) : Int)).toNat + 1 = ((l.length : Int) - (i : Int)).toNat; omega)⟩
end Go.Proofs
