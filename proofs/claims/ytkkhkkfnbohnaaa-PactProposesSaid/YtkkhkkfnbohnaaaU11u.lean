import Derived.Test.YtkkhkkfnbohnaaaU11t
import Derived.Test.YtkkhkkfnbohnaaaV11f
set_option linter.unusedVariables false
set_option linter.unusedSimpArgs false
set_option maxRecDepth 10000
namespace Go.Proofs
open Go X RowKit
theorem miss_len (e : Pe) : (missE e).length ≤ e.ms.length := by
  unfold missE
  split
  · simp
  · exact List.length_filter_le _ _
theorem rpX {F0 : List Nat} {m0 : Mem} {w0 w : World} {L : List Nat} {m : Mem} {As : List Asn} {b : Nat} {y : Rp} (C : Ctx F0 m0 w0 w L m (rpA b y :: As)) : FactsW [(⟨b, 4, none⟩, [.int .i64 y.ph]), (⟨b, 3, none⟩, [.int .u64 y.bn]), (⟨b, 11, none⟩, y.ch.row)] w L := by
  obtain ⟨gq, C⟩ := rpO C
  exact C.blkFact1 4 _ rfl (C.blkFact1 3 _ rfl (C.blkFact 11 y.ch.row (fun k v e => by match k, e with | 0, e => exact e | 1, e => exact e) (facts_nil _ _)))
theorem l_PactProposes (w : World) (v : Vw) (n : Int) (q : Sl) (l : List Av) (hv : VwM (memOf w) v) (hr : ∀ p ∈ v.ms, 0 ≤ p.n) (hvn : 0 ≤ v.n) (hm : MSrc (memOf w) 8 (slV q l.length) l.length (l.flatMap Av.row)) (ha : ∀ a ∈ l, AvM (memOf w) a) :
    Calls Try.prog 4 #[.agg v.row.toArray, .int .u64 n, slV q l.length] w (LawR w) := by
  refine x_PactProposes _ _ _ _ _ _ _ _ _ w _ fun w1 L2 h1 g1 => ?_
  have C := (lawStart w).hidL h1 g1
  refine (c_light q l).call (As := []) C ⟨hm, ha⟩ fun b m1 w4 hk hm1 hb C => ⟨_, rfl, hk, ?_⟩
  by_cases hgo : (((!b) || decide (((v.ms.length : Nat) : Int) > 20)) == false) = true
  rotate_left
  · rw [if_neg hgo]
    exact c_knows.call (As := []) C trivial fun _ m2 w5 hk hm2 _ C => ⟨_, rfl, hk, rfl, C.at_⟩
  rw [if_pos hgo]
  simp only [beq_iff_eq, Bool.or_eq_false_iff, Bool.not_eq_false', decide_eq_false_iff_not] at hgo
  obtain ⟨hlen, hlt⟩ := hb hgo.1
  refine c_knows.call (As := []) C trivial fun _ m2 w10 hk hm2 _ C => ⟨_, rfl, hk, ?_⟩
  rw [if_neg (by decide)]
  have hm02 := hm1.le_trans hm2
  refine (c_Own6 v (by omega)).call (As := []) C (MSrc.mono hv hm02) fun vq m3 w13 hk hm3 hvq C => ⟨_, _, _, _, _, rfl, hk, ?_⟩
  by_cases hs : v.ok = true ∧ n ≠ 0
  rotate_left
  · have hs2 : ¬ (Vw.ok { v with q := vq } = true ∧ n ≠ 0) := hs
    refine (c_StartBad { v with q := vq } n hr hs2).call (As := []) C hvq fun _ m4 w20 hk hm4 _ C => ⟨_, rfl, hk, ?_⟩
    refine (c_rStartBad v n hr hvn hs).call (As := []) C (MSrc.mono hv (hm02.le_trans (hm3.le_trans hm4))) fun _ m5 w23 hk hm5 _ C => ⟨_, rfl, hk, ?_⟩
    rw [if_neg (by decide)]
    refine ⟨fun i w' L' => Ctx [] (memOf w) w w' L' m5 [], fun _ _ => 0, C, ?_⟩
    rintro i w28 L29 _ D
    rw [if_neg (by simp)]
    exact ⟨rfl, D.at_⟩
  have hs2 : Vw.ok { v with q := vq } = true := hs.1
  refine (c_Start { v with q := vq } n hr hs2 hs.2).call (As := []) C hvq fun i m4 w20 hk hm4 hx C => ⟨_, rfl, hk, ?_⟩
  obtain ⟨b, mp, x0⟩ := i
  simp only at hx C
  refine (c_rStart v n hr hvn hs.1 hs.2).call (As := ppA b mp x0) C (MSrc.mono hv (hm02.le_trans (hm3.le_trans hm4))) fun i m5 w23 hk hm5 hy C => ⟨_, rfl, hk, ?_⟩
  obtain ⟨br, y0⟩ := i
  simp only at hy C
  rw [if_neg (by simp)]
  have hm05 := hm02.le_trans (hm3.le_trans (hm4.le_trans hm5))
  refine ⟨fun i w' L' => ∃ (j : Nat) (x : Pp) (y : Rp) (m' : Mem), i = j ∧ j ≤ l.length ∧ m5.le m' ∧ PpM m' x ∧ RpM m' y ∧ x.er = y.er ∧ Ctx [] (memOf w) w w' L' m' (rpA br y :: ppA b mp x), fun i _ => ((l.length : Int) - i).toNat,
    ⟨0, x0, y0, m5, rfl, by omega, Mem.le_refl _, hx.1.mono hm5, hy.1, by rw [hx.2, hy.2]; rfl, C⟩, ?_⟩
  clear C
  rintro i w28 L29 _ ⟨j, x, y, m', rfl, hj, hmm, hxm, hym, hE0, D⟩
  by_cases hjl : j < l.length
  rotate_left
  · rw [if_neg (by simp; omega)]
    exact ⟨rfl, D.at_⟩
  rw [if_pos (by simp; omega)]
  have hm06 := hm05.le_trans hmm
  obtain ⟨a0, ha0, hc⟩ := (hm.mono hm06).elem av_len hjl
  refine ⟨by omega, by simpa using hjl, ?_⟩
  rw [ha0, onSome_some]
  have ham := (ha _ (List.getElem_mem hjl)).mono hm06
  have hal := hlt _ (List.getElem_mem hjl)
  generalize l[j] = a at hc ham hal
  have hav := ham.vl hal
  have htl : EsM m' a.tq a.tl := lts_M hal.tl ham.tl
  have htn : a.tl.length ≤ 100000 := by have := hal.tl.1; omega
  refine ⟨_, _, _, _, _, _, _, _, _, _, _, _, _, _, by rw [Int.toNat_natCast]; exact D.cells hc, by rw [Int.toNat_natCast]; exact D.cellsL hc, ?_⟩
  by_cases h2 : (a.kd == 2) = true
  · rw [if_pos h2]
    refine ⟨[], facts_nil _ _, fun w355 L356 h355 g355 => ?_⟩
    refine (D.hidL h355 g355).gives (c_ProcP a.p) fun w358 k358 C => ⟨_, _, rfl, k358, facts_nil _ _, ?_⟩
    refine (c_Owns a.tq a.tl htn).call (As := _) C htl fun f ma w362 hka hma hf C => ⟨_, _, _, rfl, hka, facts_nil _ _, ?_⟩
    refine (c_OwnV a.v).call (As := _) C (hav.mono hma) fun u mb w367 hkb hmb hu C => ⟨_, _, _, _, _, _, rfl, hkb, facts_nil _ _, ?_⟩
    have hmab := hma.le_trans hmb
    have hfl : f.2.length = a.tl.length := by simpa using congrArg List.length hf.2
    refine (c_Promise b mp x a.p f.1 f.2 a.bn u a.has (.inr trivial)).call (As := [rpA br y]) (Ctx.rot (As := ppA b mp x) C) ⟨hxm.mono hmab, hf.1.mono hmb, by omega, hu.1⟩ fun x2 mc w375 hkc hmc hx2 C => ⟨rfl, hkc, facts_nil _ _, ?_⟩
    have hmac := hmab.le_trans hmc
    refine (c_rPromise br y a.p a.tq a.tl a.bn a.v a.has).call (As := ppA b mp x2) (Ctx.third C) ⟨hym.mono hmac, htl.mono hmac, htn, hav.mono hmac⟩ fun y2 md w377 hkd hmd hy2 C => ⟨rfl, hkd, _, rpX C, ?_⟩
    have hE : x2.er = y2.er := by rw [hx2.2, hy2.2, hE0, hf.2, hu.2]
    replace hx2 := hx2.1.mono hmd
    replace hy2 := hy2.1
    have hle2 := hmm.le_trans (hmac.le_trans hmd)
    have hph : x2.ph = y2.ph := congrArg Pe.ph hE
    have hbn : x2.bn = y2.bn := congrArg Pe.bn hE
    have hch : x2.ch.er = y2.ch.er := congrArg Pe.ch hE
    rw [onSome_some]
    refine ⟨y2.ph, by simp [Addr.add_mid], fun w381 L382 h381 g381 => ?_⟩
    refine (c_Phase b mp x2).call (As := [_]) (C.hidL h381 g381).rot trivial fun _ m3 w3 hk3 hm3 _ C => ⟨_, rfl, hk3, rpX C.third, _, rpX C.third, fun _ h => h, ?_⟩
    rw [if_pos (by simp [hph])]
    refine (c_Ready b mp x2).call (As := [_]) C (hx2.mono hm3) fun _ m4 w4 hk4 hm4 _ C => ⟨_, rfl, hk4, rpX C.third, _, rpX C.third, fun _ h => h, ?_⟩
    have hy4 := hy2.mono (hm3.le_trans hm4)
    refine (c_rReady br y2).call (As := ppA b mp x2) C.third hy4 fun _ m5 w5 hk5 hm5 _ C => ⟨_, rfl, hk5, rpX C, _, rpX C, fun _ h => h, ?_⟩
    rw [if_pos (by rw [hE]; simp), onSome_some]
    refine ⟨y2.bn, by simp [Addr.add_mid], ?_⟩
    refine (c_PBallot b mp x2).call (As := [_]) (Ctx.rot C) trivial fun _ m6 w6 hk6 hm6 _ C => ⟨_, rfl, hk6, rpX C.third, _, rpX C.third, fun _ h => h, ?_⟩
    rw [if_pos (by simp [hbn]), onSome_some]
    refine ⟨y2.ch.mq.1, y2.ch.ms.length, y2.ch.mq.2, y2.ch.tq.1, y2.ch.ts.length, y2.ch.tq.2, by simp [Addr.add_mid], ?_⟩
    have hm36 := hm3.le_trans (hm4.le_trans (hm5.le_trans hm6))
    refine (c_Value b mp x2).call (As := [_]) C (hx2.mono hm36) fun u m7 w7 hk7 hm7 hu C => ⟨_, _, _, _, _, _, rfl, hk7, rpX C.third, ?_⟩
    refine (c_RefV u).call (As := _) C hu.1 fun t m8 w8 hk8 hm8 ht C => ⟨_, _, _, _, _, _, rfl, hk8, rpX (Ctx.third C), ?_⟩
    have hm38 := hm36.le_trans (hm7.le_trans hm8)
    refine (c_rSameV t y2.ch).call (As := _) C ⟨ht.1, (hy2.mono hm38).ch⟩ fun _ m9 w9 hk9 hm9 _ C => ⟨_, rfl, hk9, rpX (Ctx.third C), ?_⟩
    have heq : t.er = y2.ch.er := by rw [ht.2, hu.2, hch]
    rw [if_pos (by simp [heq])]
    have hm39 := hm38.le_trans hm9
    refine (c_Missing b mp x2).call (As := [_]) C (hx2.mono hm39) fun mq m10 w10 hk10 hm10 hmq C => ⟨_, _, _, rfl, hk10, rpX C.third, ?_⟩
    have hml : (missE x2.er).length ≤ 1000000 := Nat.le_trans (miss_len _) hx2.vl
    refine (c_RefProcs mq (missE x2.er) (by omega)).call (As := _) C hmq fun mq2 m11 w11 hk11 hm11 hmq2 C => ⟨_, _, _, rfl, hk11, rpX (Ctx.third C), ?_⟩
    have hm311 := hm39.le_trans (hm10.le_trans hm11)
    refine (c_rMissing br y2).call (As := ppA b mp x2) (Ctx.third C) (hy2.mono hm311) fun rq m12 w12 hk12 hm12 hrq C => ⟨_, _, _, rfl, hk12, rpX C, ?_⟩
    refine (c_SameProcs mq2 rq (missE x2.er) (missE y2.er) (by omega)).call (As := _) C ⟨hmq2.mono hm12, hrq⟩ fun _ m13 w13 hk13 hm13 _ C => ⟨_, rfl, hk13, rpX C, ?_⟩
    rw [if_neg (by simp [hE]), w_i64 (n := (j : Int) + 1) (by omega) (by omega)]
    have hm313 := hm311.le_trans (hm12.le_trans hm13)
    exact ⟨rfl, ⟨j + 1, x2, y2, m13, by omega, by omega, hle2.le_trans hm313, hx2.mono hm313, hy2.mono hm313, hE, C⟩, Nat.le_of_eq (by show ((l.length : Int) - ((j : Int) + 1)).toNat + 1 = ((l.length : Int) - (j : Int)).toNat; omega)⟩
  rw [if_neg h2]
  by_cases h3 : (a.kd == 3) = true
  · rw [if_pos h3]
    refine fun w225 L226 h225 g225 => ?_
    refine (c_Procs a.v.mq a.v.ms (by have := hal.m; omega)).call (As := _) (D.hidL h225 g225) hav.pm fun pq ma w228 hka hma hpq C => ⟨_, _, _, rfl, hka, ?_⟩
    have hml0 : a.v.ms.length ≤ 100000 := by have := hal.m; omega
    refine (c_Propose b mp x pq a.v.ms hml0).call (As := [rpA br y]) (Ctx.rot (As := ppA b mp x) C) ⟨hxm.mono hma, hpq⟩ fun ix mb w233 hkb hmb hix C => ⟨_, _, _, _, _, _, _, rfl, hkb, fun w241 L242 h241 g241 => ?_⟩
    have hmab := hma.le_trans hmb
    refine (c_rPropose br y a.v.mq a.v.ms hml0).call (As := ppA b mp ix.1) (Ctx.third (C.hidL h241 g241)) ⟨hym.mono hmab, hav.pm.mono hmab⟩ fun iy mc w244 hkc hmc hiy C => ⟨_, _, _, _, _, _, _, rfl, hkc, _, rpX C, fun w253 L254 h253 g253 => ?_⟩
    obtain ⟨x2, u⟩ := ix
    obtain ⟨y2, z⟩ := iy
    obtain ⟨hx2, hxe, hu, hue⟩ := hix
    obtain ⟨hy2, hye, hz, hze⟩ := hiy
    simp only at hx2 hxe hu hue hy2 hye hz hze C
    have hE : x2.er = y2.er := by rw [hxe, hye, hE0]
    have hue2 : u.er = z.er := by
      rw [hue, hze, hE0]
      have : x2.ch.er = y2.ch.er := congrArg Pe.ch hE
      rw [this]
    refine (c_RefV u).call (As := _) (C.hidL h253 g253) (hu.mono hmc) fun t md w256 hkd hmd ht C => ⟨_, _, _, _, _, _, rfl, hkd, rpX C, ?_⟩
    refine (c_rSameV t z).call (As := _) C ⟨ht.1, hz.mono hmd⟩ fun _ me w264 hke hme _ C => ⟨_, rfl, hke, rpX C, _, rpX C, ?_⟩
    rw [if_pos (by rw [ht.2, hue2, hE0]; simp)]
    have hmce := hmc.le_trans (hmd.le_trans hme)
    replace hx2 := hx2.mono hmce
    replace hy2 := hy2.mono (hmd.le_trans hme)
    have hle2 := hmm.le_trans (hmab.le_trans hmce)
    replace C : Ctx [] (memOf w) w w264 L254 me (rpA br y2 :: ppA b mp x2) := C
    have hph : x2.ph = y2.ph := congrArg Pe.ph hE
    have hbn : x2.bn = y2.bn := congrArg Pe.bn hE
    have hch : x2.ch.er = y2.ch.er := congrArg Pe.ch hE
    rw [onSome_some]
    refine ⟨y2.ph, by simp [Addr.add_mid], fun w381 L382 h381 g381 => ?_⟩
    refine (c_Phase b mp x2).call (As := [_]) (C.hidL h381 g381).rot trivial fun _ m3 w3 hk3 hm3 _ C => ⟨_, rfl, hk3, rpX C.third, _, rpX C.third, fun _ h => h, ?_⟩
    rw [if_pos (by simp [hph])]
    refine (c_Ready b mp x2).call (As := [_]) C (hx2.mono hm3) fun _ m4 w4 hk4 hm4 _ C => ⟨_, rfl, hk4, rpX C.third, _, rpX C.third, fun _ h => h, ?_⟩
    have hy4 := hy2.mono (hm3.le_trans hm4)
    refine (c_rReady br y2).call (As := ppA b mp x2) C.third hy4 fun _ m5 w5 hk5 hm5 _ C => ⟨_, rfl, hk5, rpX C, _, rpX C, fun _ h => h, ?_⟩
    rw [if_pos (by rw [hE]; simp), onSome_some]
    refine ⟨y2.bn, by simp [Addr.add_mid], ?_⟩
    refine (c_PBallot b mp x2).call (As := [_]) (Ctx.rot C) trivial fun _ m6 w6 hk6 hm6 _ C => ⟨_, rfl, hk6, rpX C.third, _, rpX C.third, fun _ h => h, ?_⟩
    rw [if_pos (by simp [hbn]), onSome_some]
    refine ⟨y2.ch.mq.1, y2.ch.ms.length, y2.ch.mq.2, y2.ch.tq.1, y2.ch.ts.length, y2.ch.tq.2, by simp [Addr.add_mid], ?_⟩
    have hm36 := hm3.le_trans (hm4.le_trans (hm5.le_trans hm6))
    refine (c_Value b mp x2).call (As := [_]) C (hx2.mono hm36) fun u m7 w7 hk7 hm7 hu C => ⟨_, _, _, _, _, _, rfl, hk7, rpX C.third, ?_⟩
    refine (c_RefV u).call (As := _) C hu.1 fun t m8 w8 hk8 hm8 ht C => ⟨_, _, _, _, _, _, rfl, hk8, rpX (Ctx.third C), ?_⟩
    have hm38 := hm36.le_trans (hm7.le_trans hm8)
    refine (c_rSameV t y2.ch).call (As := _) C ⟨ht.1, (hy2.mono hm38).ch⟩ fun _ m9 w9 hk9 hm9 _ C => ⟨_, rfl, hk9, rpX (Ctx.third C), ?_⟩
    have heq : t.er = y2.ch.er := by rw [ht.2, hu.2, hch]
    rw [if_pos (by simp [heq])]
    have hm39 := hm38.le_trans hm9
    refine (c_Missing b mp x2).call (As := [_]) C (hx2.mono hm39) fun mq m10 w10 hk10 hm10 hmq C => ⟨_, _, _, rfl, hk10, rpX C.third, ?_⟩
    have hml : (missE x2.er).length ≤ 1000000 := Nat.le_trans (miss_len _) hx2.vl
    refine (c_RefProcs mq (missE x2.er) (by omega)).call (As := _) C hmq fun mq2 m11 w11 hk11 hm11 hmq2 C => ⟨_, _, _, rfl, hk11, rpX (Ctx.third C), ?_⟩
    have hm311 := hm39.le_trans (hm10.le_trans hm11)
    refine (c_rMissing br y2).call (As := ppA b mp x2) (Ctx.third C) (hy2.mono hm311) fun rq m12 w12 hk12 hm12 hrq C => ⟨_, _, _, rfl, hk12, rpX C, ?_⟩
    refine (c_SameProcs mq2 rq (missE x2.er) (missE y2.er) (by omega)).call (As := _) C ⟨hmq2.mono hm12, hrq⟩ fun _ m13 w13 hk13 hm13 _ C => ⟨_, rfl, hk13, rpX C, ?_⟩
    rw [if_neg (by simp [hE]), w_i64 (n := (j : Int) + 1) (by omega) (by omega)]
    have hm313 := hm311.le_trans (hm12.le_trans hm13)
    exact ⟨rfl, ⟨j + 1, x2, y2, m13, by omega, by omega, hle2.le_trans hm313, hx2.mono hm313, hy2.mono hm313, hE, C⟩, Nat.le_of_eq (by show ((l.length : Int) - ((j : Int) + 1)).toNat + 1 = ((l.length : Int) - (j : Int)).toNat; omega)⟩
  rw [if_neg h3]
  by_cases h4 : (a.kd == 4) = true
  · rw [if_pos h4]
    refine ⟨[], facts_nil _ _, fun w125 L126 h125 g125 => ?_⟩
    refine (D.hidL h125 g125).gives (c_ProcP a.p) fun w128 k128 C => ⟨_, _, rfl, k128, facts_nil _ _, ?_⟩
    refine (c_Accepted b mp x a.p).call (As := [rpA br y]) (Ctx.rot (As := ppA b mp x) C) hxm fun _ ma w132 hka hma hx2 C => ⟨_, rfl, hka, facts_nil _ _, ?_⟩
    have hxe : (x.acc a.p).er = accE x.er a.p := acc_er
    generalize x.acc a.p = x2 at hx2 hxe C
    refine (c_rAccepted br y a.p).call (As := ppA b mp x2) (Ctx.third C) (hym.mono hma) fun y2 mb w135 hkb hmb hy2 C => ⟨_, rfl, hkb, facts_nil _ _, _, rpX C, ?_⟩
    have hE : x2.er = y2.er := by rw [hxe, hy2.2, hE0]
    have hph0 : x2.ph = y2.ph := congrArg Pe.ph hE
    rw [if_pos (by simp [hph0])]
    replace hx2 := hx2.mono hmb
    replace hy2 := hy2.1
    have hle2 := hmm.le_trans (hma.le_trans hmb)
    replace C : Ctx [] (memOf w) w w135 L126 mb (rpA br y2 :: ppA b mp x2) := C
    have hph : x2.ph = y2.ph := congrArg Pe.ph hE
    have hbn : x2.bn = y2.bn := congrArg Pe.bn hE
    have hch : x2.ch.er = y2.ch.er := congrArg Pe.ch hE
    rw [onSome_some]
    refine ⟨y2.ph, by simp [Addr.add_mid], fun w381 L382 h381 g381 => ?_⟩
    refine (c_Phase b mp x2).call (As := [_]) (C.hidL h381 g381).rot trivial fun _ m3 w3 hk3 hm3 _ C => ⟨_, rfl, hk3, rpX C.third, _, rpX C.third, fun _ h => h, ?_⟩
    rw [if_pos (by simp [hph])]
    refine (c_Ready b mp x2).call (As := [_]) C (hx2.mono hm3) fun _ m4 w4 hk4 hm4 _ C => ⟨_, rfl, hk4, rpX C.third, _, rpX C.third, fun _ h => h, ?_⟩
    have hy4 := hy2.mono (hm3.le_trans hm4)
    refine (c_rReady br y2).call (As := ppA b mp x2) C.third hy4 fun _ m5 w5 hk5 hm5 _ C => ⟨_, rfl, hk5, rpX C, _, rpX C, fun _ h => h, ?_⟩
    rw [if_pos (by rw [hE]; simp), onSome_some]
    refine ⟨y2.bn, by simp [Addr.add_mid], ?_⟩
    refine (c_PBallot b mp x2).call (As := [_]) (Ctx.rot C) trivial fun _ m6 w6 hk6 hm6 _ C => ⟨_, rfl, hk6, rpX C.third, _, rpX C.third, fun _ h => h, ?_⟩
    rw [if_pos (by simp [hbn]), onSome_some]
    refine ⟨y2.ch.mq.1, y2.ch.ms.length, y2.ch.mq.2, y2.ch.tq.1, y2.ch.ts.length, y2.ch.tq.2, by simp [Addr.add_mid], ?_⟩
    have hm36 := hm3.le_trans (hm4.le_trans (hm5.le_trans hm6))
    refine (c_Value b mp x2).call (As := [_]) C (hx2.mono hm36) fun u m7 w7 hk7 hm7 hu C => ⟨_, _, _, _, _, _, rfl, hk7, rpX C.third, ?_⟩
    refine (c_RefV u).call (As := _) C hu.1 fun t m8 w8 hk8 hm8 ht C => ⟨_, _, _, _, _, _, rfl, hk8, rpX (Ctx.third C), ?_⟩
    have hm38 := hm36.le_trans (hm7.le_trans hm8)
    refine (c_rSameV t y2.ch).call (As := _) C ⟨ht.1, (hy2.mono hm38).ch⟩ fun _ m9 w9 hk9 hm9 _ C => ⟨_, rfl, hk9, rpX (Ctx.third C), ?_⟩
    have heq : t.er = y2.ch.er := by rw [ht.2, hu.2, hch]
    rw [if_pos (by simp [heq])]
    have hm39 := hm38.le_trans hm9
    refine (c_Missing b mp x2).call (As := [_]) C (hx2.mono hm39) fun mq m10 w10 hk10 hm10 hmq C => ⟨_, _, _, rfl, hk10, rpX C.third, ?_⟩
    have hml : (missE x2.er).length ≤ 1000000 := Nat.le_trans (miss_len _) hx2.vl
    refine (c_RefProcs mq (missE x2.er) (by omega)).call (As := _) C hmq fun mq2 m11 w11 hk11 hm11 hmq2 C => ⟨_, _, _, rfl, hk11, rpX (Ctx.third C), ?_⟩
    have hm311 := hm39.le_trans (hm10.le_trans hm11)
    refine (c_rMissing br y2).call (As := ppA b mp x2) (Ctx.third C) (hy2.mono hm311) fun rq m12 w12 hk12 hm12 hrq C => ⟨_, _, _, rfl, hk12, rpX C, ?_⟩
    refine (c_SameProcs mq2 rq (missE x2.er) (missE y2.er) (by omega)).call (As := _) C ⟨hmq2.mono hm12, hrq⟩ fun _ m13 w13 hk13 hm13 _ C => ⟨_, rfl, hk13, rpX C, ?_⟩
    rw [if_neg (by simp [hE]), w_i64 (n := (j : Int) + 1) (by omega) (by omega)]
    have hm313 := hm311.le_trans (hm12.le_trans hm13)
    exact ⟨rfl, ⟨j + 1, x2, y2, m13, by omega, by omega, hle2.le_trans hm313, hx2.mono hm313, hy2.mono hm313, hE, C⟩, Nat.le_of_eq (by show ((l.length : Int) - ((j : Int) + 1)).toNat + 1 = ((l.length : Int) - (j : Int)).toNat; omega)⟩
  · rw [if_neg h4]
    refine ⟨_, rpX D, ?_⟩
    have C := D
    have hE := hE0
    have hx2 := hxm
    have hy2 := hym
    have hle2 := hmm
    generalize x = x2 at C hE hx2
    generalize y = y2 at C hE hy2
    have hph : x2.ph = y2.ph := congrArg Pe.ph hE
    have hbn : x2.bn = y2.bn := congrArg Pe.bn hE
    have hch : x2.ch.er = y2.ch.er := congrArg Pe.ch hE
    rw [onSome_some]
    refine ⟨y2.ph, by simp [Addr.add_mid], fun w381 L382 h381 g381 => ?_⟩
    refine (c_Phase b mp x2).call (As := [_]) (C.hidL h381 g381).rot trivial fun _ m3 w3 hk3 hm3 _ C => ⟨_, rfl, hk3, rpX C.third, _, rpX C.third, fun _ h => h, ?_⟩
    rw [if_pos (by simp [hph])]
    refine (c_Ready b mp x2).call (As := [_]) C (hx2.mono hm3) fun _ m4 w4 hk4 hm4 _ C => ⟨_, rfl, hk4, rpX C.third, _, rpX C.third, fun _ h => h, ?_⟩
    have hy4 := hy2.mono (hm3.le_trans hm4)
    refine (c_rReady br y2).call (As := ppA b mp x2) C.third hy4 fun _ m5 w5 hk5 hm5 _ C => ⟨_, rfl, hk5, rpX C, _, rpX C, fun _ h => h, ?_⟩
    rw [if_pos (by rw [hE]; simp), onSome_some]
    refine ⟨y2.bn, by simp [Addr.add_mid], ?_⟩
    refine (c_PBallot b mp x2).call (As := [_]) (Ctx.rot C) trivial fun _ m6 w6 hk6 hm6 _ C => ⟨_, rfl, hk6, rpX C.third, _, rpX C.third, fun _ h => h, ?_⟩
    rw [if_pos (by simp [hbn]), onSome_some]
    refine ⟨y2.ch.mq.1, y2.ch.ms.length, y2.ch.mq.2, y2.ch.tq.1, y2.ch.ts.length, y2.ch.tq.2, by simp [Addr.add_mid], ?_⟩
    have hm36 := hm3.le_trans (hm4.le_trans (hm5.le_trans hm6))
    refine (c_Value b mp x2).call (As := [_]) C (hx2.mono hm36) fun u m7 w7 hk7 hm7 hu C => ⟨_, _, _, _, _, _, rfl, hk7, rpX C.third, ?_⟩
    refine (c_RefV u).call (As := _) C hu.1 fun t m8 w8 hk8 hm8 ht C => ⟨_, _, _, _, _, _, rfl, hk8, rpX (Ctx.third C), ?_⟩
    have hm38 := hm36.le_trans (hm7.le_trans hm8)
    refine (c_rSameV t y2.ch).call (As := _) C ⟨ht.1, (hy2.mono hm38).ch⟩ fun _ m9 w9 hk9 hm9 _ C => ⟨_, rfl, hk9, rpX (Ctx.third C), ?_⟩
    have heq : t.er = y2.ch.er := by rw [ht.2, hu.2, hch]
    rw [if_pos (by simp [heq])]
    have hm39 := hm38.le_trans hm9
    refine (c_Missing b mp x2).call (As := [_]) C (hx2.mono hm39) fun mq m10 w10 hk10 hm10 hmq C => ⟨_, _, _, rfl, hk10, rpX C.third, ?_⟩
    have hml : (missE x2.er).length ≤ 1000000 := Nat.le_trans (miss_len _) hx2.vl
    refine (c_RefProcs mq (missE x2.er) (by omega)).call (As := _) C hmq fun mq2 m11 w11 hk11 hm11 hmq2 C => ⟨_, _, _, rfl, hk11, rpX (Ctx.third C), ?_⟩
    have hm311 := hm39.le_trans (hm10.le_trans hm11)
    refine (c_rMissing br y2).call (As := ppA b mp x2) (Ctx.third C) (hy2.mono hm311) fun rq m12 w12 hk12 hm12 hrq C => ⟨_, _, _, rfl, hk12, rpX C, ?_⟩
    refine (c_SameProcs mq2 rq (missE x2.er) (missE y2.er) (by omega)).call (As := _) C ⟨hmq2.mono hm12, hrq⟩ fun _ m13 w13 hk13 hm13 _ C => ⟨_, rfl, hk13, rpX C, ?_⟩
    rw [if_neg (by simp [hE]), w_i64 (n := (j : Int) + 1) (by omega) (by omega)]
    have hm313 := hm311.le_trans (hm12.le_trans hm13)
    exact ⟨rfl, ⟨j + 1, x2, y2, m13, by omega, by omega, hle2.le_trans hm313, hx2.mono hm313, hy2.mono hm313, hE, C⟩, Nat.le_of_eq (by show ((l.length : Int) - ((j : Int) + 1)).toNat + 1 = ((l.length : Int) - (j : Int)).toNat; omega)⟩
end Go.Proofs
