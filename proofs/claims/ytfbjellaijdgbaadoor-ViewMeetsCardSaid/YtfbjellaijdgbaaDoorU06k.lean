import Derived.Test.YtfbjellaijdgbaaDoorU06j
import Derived.Test.YtfbjellaijdgbaaDoorV06n
set_option linter.unusedVariables false
set_option linter.unusedSimpArgs false
set_option maxRecDepth 10000
namespace Go.Proofs
open Go X RowKit
set_option maxHeartbeats 2000000 in
theorem c_Next (v : Vw) (hr : ∀ p ∈ v.ms, 0 ≤ p.n) (hn : 0 ≤ v.n ∧ v.n ≤ 4294967295) (dq : Sl) (drop : List Pr) (hd : drop.length ≤ 1000) (aq : Sl) (add : List Pr) (ha : add.length ≤ 1000) :
    Ctr Tryd.prog 8 #[.agg v.row.toArray, slV dq drop.length, slV aq add.length] (fun m => VwM m v ∧ PM dq drop m ∧ PM aq add m) []
      (fun p : Sl => (nextF v drop add).V p) (fun p m => (nextF v drop add).M m p) (fun _ => []) := by
  refine Ctr.mk fun w F m C hp => x_Next _ _ _ _ _ _ _ _ _ _ _ w _ fun w1 L2 h1 g1 => ?_
  obtain ⟨hv, hdm, ham⟩ := hp
  refine (c_vRight v hr).call (As := []) (C.hidL h1 g1) hv fun _ m1 w4 hk hm1 _ C => ⟨_, rfl, hk, ?_⟩
  replace hv := MSrc.mono hv hm1
  replace hdm := hdm.mono hm1
  replace ham := ham.mono hm1
  cases hok : v.ok with
  | false =>
    rw [if_pos (by decide)]
    have e : nextF v drop add = .err 1 := by rw [nextF, if_pos hok]
    rw [e]
    exact fun w92 h92 => Ctr.ret (m' := m1) (L := []) (none, 0) rfl (.nil ..) (C.hid0 h92)
  | true =>
  rw [if_neg (by decide)]
  have hms : v.ms.length ≤ 8 ∧ (v.ms.map Pr.n).Nodup := by
    have := hok
    simp only [Vw.ok, decide_eq_true_eq] at this
    exact ⟨this.2.2.2.1, this.2.2.2.2.2⟩
  by_cases hmx : v.n = 4294967295
  · rw [if_pos (by simp [hmx])]
    have e : nextF v drop add = .err 2 := by rw [nextF, if_neg (by simp [hok]), if_pos hmx]
    rw [e]
    exact fun w92 h92 => Ctr.ret (m' := m1) (L := []) (none, 0) rfl (.nil ..) (C.hid0 h92)
  rw [if_neg (by simp [hmx])]
  refine (c_among dq drop).call (As := []) C trivial fun z m2 w7 hk hm2 _ C => ⟨_, rfl, hk, ?_⟩
  replace hv := MSrc.mono hv hm2
  replace hdm := hdm.mono hm2
  replace ham := ham.mono hm2
  rw [if_pos (by kernel_rfl)]
  have C1 := C.alloc [.nilFunc] 52
  generalize hz2 : w7.heap.size = z2 at *
  refine ⟨rfl, C1.there _ _ (Nat.le_refl 1), C1.blkAt.2, ?_⟩
  have C2 : Ctx F m w _ L2 m2 ([] ++ [blk z2 [.func (.func 39) #[] #[.pointer (some ⟨z, 0, none⟩)]] 52, blk z [slV dq drop.length] 28]) := C1.store 0 [.func (.func 39) #[] #[.pointer (some ⟨z, 0, none⟩)]] (by simp)
  refine (c_which v 24 #[.pointer (some ⟨z2, 0, none⟩)]).call C2 trivial fun zz m3 w10 hk hm3 _ C => ⟨_, rfl, hk, ?_⟩
  replace hv := MSrc.mono hv hm3
  replace hdm := hdm.mono hm3
  replace ham := ham.mono hm3
  have C3 : Ctx F m w w10 L2 m3 (itA zz.1 zz.2 v 24 #[.pointer (some ⟨z2, 0, none⟩)] [blk z2 [.func (.func 39) #[] #[.pointer (some ⟨z, 0, none⟩)]] 52, blk z [slV dq drop.length] 28] ++ []) := Ctx.swap C
  refine (c_Collect zz.1 zz.2 v (by omega) 24 #[.pointer (some ⟨z2, 0, none⟩)] (fun p => !decide (p ∈ drop)) (fun m => PM dq drop m) (fun _ _ h hm => h.mono hm) _ (said24 z z2 dq drop (by omega))).call C3 ⟨hv, hdm⟩ fun r m4 w13 hk hm4 _ C => ⟨_, _, _, rfl, hk, ?_⟩
  replace hv := MSrc.mono hv hm4
  replace ham := ham.mono hm4
  have ek : (v.ms.filter fun p => !decide (p ∈ drop)) = keepF v.ms drop := by rw [keepF]; congr 1; funext p; rw [decide_not]
  rw [ek] at C ⊢
  have C4 : Ctx F m w w13 L2 m4 [prS r (keepF v.ms drop)] := Ctx.pk C [0] [1, 2, 3, 4] rfl
  have hkl := keep_len v.ms drop
  refine ⟨fun q k c i w' L' => ∃ (j : Nat) (m' : Mem), i = j ∧ j ≤ add.length ∧ k = (nextL v.ms drop (add.take j)).length ∧ m4.le m' ∧ Ctx F m w w' L' m' [prS (q, c) (nextL v.ms drop (add.take j))], fun _ _ _ i _ => ((add.length : Int) - i).toNat, ⟨0, m4, rfl, by omega, by rw [List.take_zero]; rfl, Mem.le_refl _, by rw [List.take_zero]; exact C4⟩, ?_⟩
  clear C C1 C2 C3 C4
  rintro q k c i w23 L24 _ ⟨j, m', rfl, hj, rfl, hm', D⟩
  have hcl := fold_len (add.take j) (keepF v.ms drop)
  have hcur : (nextL v.ms drop (add.take j)).length ≤ 2000 := by rw [List.length_take] at hcl; unfold nextL; omega
  by_cases hjl : j < add.length
  · rw [if_pos (by simpa using hjl)]
    refine ⟨by omega, by simpa using hjl, ?_⟩
    obtain ⟨a, ha1, hc⟩ := (ham.mono hm').elem pr_len hjl
    have ha1 : aq.1 = some a := ha1
    rw [ha1, onSome_some, Int.toNat_natCast]
    refine ⟨_, _, D.cells hc, D.cellsL hc, fun w34 L35 h34 g34 => ?_⟩
    have hst : nextL v.ms drop (add.take (j + 1)) = takeF (nextL v.ms drop (add.take j)) add[j] := by
      rw [List.take_succ_eq_append_getElem hjl, nextL, nextL, List.foldl_append]; rfl
    refine (c_take (q, c) (nextL v.ms drop (add.take j)) add[j] (by omega)).call (As := []) (D.hidL h34 g34) trivial fun r2 m5 w37 hk hm5 _ E => ⟨_, _, _, rfl, hk, rfl, rfl, ?_⟩
    have e : IntKind.wrap .i64 ((j : Int) + 1) = ((j + 1 : Nat) : Int) := by rw [w_i64 (by omega) (by omega)]; omega
    rw [e]
    exact ⟨⟨j + 1, m5, rfl, hjl, by rw [hst], hm'.le_trans hm5, by rw [hst]; exact E⟩, Nat.le_of_eq (by show ((add.length : Int) - ((j + 1 : Nat) : Int)).toNat + 1 = ((add.length : Int) - (j : Int)).toNat; omega)⟩
  · rw [if_neg (by simpa using hjl)]
    have hj2 : j = add.length := by omega
    subst hj2
    rw [List.take_length] at D hcur ⊢
    obtain ⟨m5, hm5, hs, D⟩ := D.slShare
    refine (c_Quorum v (by omega) (q, c) (nextL v.ms drop add) (by omega)).call (As := []) D ⟨MSrc.mono hv (hm'.le_trans hm5), hs⟩ fun b m6 w26 hk hm6 hb D => ⟨_, rfl, hk, ?_⟩
    subst hb
    have e0 : nextF v drop add = if ¬ ((cntM v.ms (nextL v.ms drop add) : Int) ≥ v.maj) then .err 17 else if 8 < (nextL v.ms drop add).length then .err 11 else ⟨0, v.g, v.n + 1, nextL v.ms drop add⟩ := by rw [nextF, if_neg (by simp [hok]), if_neg hmx]
    by_cases hq : (cntM v.ms (nextL v.ms drop add) : Int) ≥ v.maj
    · rw [if_neg (by simp [hq])]
      rw [if_neg (by simpa using hq)] at e0
      by_cases h8 : 8 < (nextL v.ms drop add).length
      · rw [if_pos (by simp; omega)]
        rw [if_pos h8] at e0
        rw [e0]
        exact fun w92 h92 => Ctr.ret (m' := m6) (L := []) (none, 0) rfl (.nil ..) (D.hid0 h92)
      · rw [if_neg (by simp; omega)]
        rw [if_neg h8] at e0
        have hw1 : IntKind.wrap .u32 (v.n + 1) = v.n + 1 := w_u32 (by omega) (by omega)
        rw [e0, hw1]
        exact fun w92 h92 => Ctr.ret (m' := m6) (L := []) (q, c) rfl (hs.mono hm6) (D.hid0 h92)
    · rw [if_pos (by simp; omega)]
      rw [if_pos hq] at e0
      rw [e0]
      exact fun w92 h92 => Ctr.ret (m' := m6) (L := []) (none, 0) rfl (.nil ..) (D.hid0 h92)
end Go.Proofs
