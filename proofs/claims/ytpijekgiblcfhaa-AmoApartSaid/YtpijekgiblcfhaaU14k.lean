import Derived.Test.YtpijekgiblcfhaaU14j
set_option linter.unusedVariables false
set_option linter.unusedSimpArgs false
set_option maxRecDepth 10000
namespace Go.Proofs
open Go X RowKit
theorem cut0 (q : Option Addr) (c z : Nat) : cutA q c 0 z = q := by
  unfold cutA; split
  · rfl
  · cases q <;> simp [Addr.add]
theorem add_off (a : Addr) (n : Nat) : (a.add n).off = a.off + n := by
  unfold Addr.add; split
  · subst_vars; rfl
  · rfl
def Rw.told (x : Rw) (c : Int) (s : ByteArray) : Rw := { x with ended := true, code := c, val := s }
def endR (r : Rt) (d : I) (c : Int) (s : ByteArray) : Bool × Rt := match rfnd r.L d with
  | some x => if x.ended then (false, r) else if oldF r.F d then (true, { r with L := r.L.take (fK r.L d) ++ r.L.drop (fK r.L d + 1) }) else (true, { r with L := r.L.set (fK r.L d) (x.told c s) })
  | none => (false, r)
section
variable {F0 : List Nat} {m0 : Mem} {w0 w : World} {L : List Nat} {m : Mem} {As : List Asn} {A0 : Asn}
theorem app_all {p : Sl} {l out : List Rw} {q : Option Addr} {c : Nat} (hl : l.length ≤ 100000) (ho : out.length ≤ 100001) (C : Ctx F0 m0 w0 w L m (A0 :: rwsA p l :: rwsA (q, c) out :: As)) :
    ∃ q1 c1 w2, (Builtin.append_ #[79, 79] 79 #[.slice q out.length c, slV p l.length]).run Try.prog w = .ok (.slice q1 (out ++ l).length c1) w2 ∧ Kept L w w2 ∧ Ctx F0 m0 w0 w2 L m (A0 :: rwsA p l :: rwsA (q1, c1) (out ++ l) :: As) := by
  have hs := Ctx.slSrc C.swap
  obtain ⟨q1, c1, w2, hr, hkk, C2⟩ := Ctx.app (P := Try.prog) (bytes := 200) (t := 79) (t2 := 79) C.third 79 (by kernel_rfl) hs (by omega) (rws_one _)
  have e1 : (out ++ l).length = out.length + l.length := by rw [List.length_append]
  have e2 : (out ++ l).flatMap Rw.row = out.flatMap Rw.row ++ l.flatMap Rw.row := by simp
  refine ⟨q1, c1, w2, by rw [e1]; exact hr, hkk, ?_⟩
  unfold rwsA slV
  rw [e1, e2]
  exact C2.perm (List.Perm.trans (.swap ..) (List.Perm.cons _ (.swap ..)))
theorem app_cut {out : List Rw} {q : Option Addr} {c : Nat} (ho : out.length ≤ 100001) (k : Nat) (hk : k < out.length) (C : Ctx F0 m0 w0 w L m (A0 :: rwsA (q, c) out :: As)) :
    ∃ q1 c1 w2, (Builtin.append_ #[79, 79] 79 #[.slice (cutA q c 0 13) k c, .slice (cutA q c (k + 1) 13) (out.length - (k + 1)) (c - (k + 1))]).run Try.prog w = .ok (.slice q1 (out.take k ++ out.drop (k + 1)).length c1) w2 ∧ Kept L w w2 ∧
      Ctx F0 m0 w0 w2 L m (A0 :: rwsA (q1, c1) (out.take k ++ out.drop (k + 1)) :: As) := by
  have hs := Ctx.srcDrop C.swap (k + 1) hk (c - (k + 1))
  rw [flat_drop rw_len] at hs
  have C1 := Ctx.slTake C.swap k (by omega)
  rw [flat_take rw_len] at C1
  obtain ⟨q1, c1, w2, hr, hkk, C2⟩ := Ctx.app (P := Try.prog) (bytes := 200) (t := 79) (t2 := 79) C1 79 (by kernel_rfl) hs (by omega) (rws_one _)
  have e1 : (out.take k ++ out.drop (k + 1)).length = k + (out.length - (k + 1)) := by rw [List.length_append, List.length_take, List.length_drop]; omega
  have e2 : (out.take k ++ out.drop (k + 1)).flatMap Rw.row = (out.take k).flatMap Rw.row ++ (out.drop (k + 1)).flatMap Rw.row := by simp
  refine ⟨q1, c1, w2, by rw [e1, cut0]; exact hr, hkk, ?_⟩
  unfold rwsA slV
  rw [e1, e2]
  exact C2.swap
/-- cells of a row, written -/
theorem put_row {out : List Rw} {q : Option Addr} {c : Nat} (k : Nat) (hk : k < out.length) (o : Nat) (v : Value) (vs : List Value) (ho : o + (v :: vs).length ≤ 13) (y : Rw) (hy : y.row = splice (out[k]).row o (v :: vs)) (C : Ctx F0 m0 w0 w L m (A0 :: rwsA (q, c) out :: As)) :
    ∃ a, q = some a ∧ World.there w (a.add (k * 13)).block ((a.add (k * 13)).off + o) (v :: vs).length ∧ (a.add (k * 13)).block ∉ L ∧ Ctx F0 m0 w0 (w.setCells (a.add (k * 13)).block ((a.add (k * 13)).off + o) (v :: vs)) L m (A0 :: rwsA (q, c) (out.set k y) :: As) := by
  obtain ⟨a, rfl, _, h1, h2, C2⟩ := Ctx.slPut C.swap (k * 13 + o) v vs (by rw [flat_len rw_len]; have := Nat.mul_le_mul_right 13 (show k + 1 ≤ out.length from hk); omega)
  rw [flat_put rw_len out k hk ho hy] at C2
  refine ⟨a, rfl, by rw [addr_block, add_off, Nat.add_assoc]; exact h1, by rw [addr_block]; exact h2, ?_⟩
  rw [addr_block, add_off, Nat.add_assoc]
  unfold rwsA slV
  rw [List.length_set]
  exact C2.swap
end
theorem c_rEnd (b : Nat) (r : Rt) (d : I) (c : Int) (s : ByteArray) (hd : d.In) (hr : r.Ok) : Ctr Try.prog 25 #[.pointer (some ⟨b, 0, none⟩), d.V, .agg #[.int .u8 c, .string s]] noMem [rtA b r] (fun _ : Unit => .bool (endR r d c s).1) (fun _ _ => True) (fun _ => [rtA b (endR r d c s).2]) := by
  refine Ctr.mk fun w F m C _ => x_rEnd _ _ _ _ _ _ _ _ _ _ _ _ _ w _ fun w1 L2 h1 g1 => ?_
  refine (c_rfind b r d hd hr).call (As := []) (C.hidL h1 g1) trivial fun _ m1 w4 hk hm _ C => ⟨_, _, rfl, hk, ?_⟩
  cases hf : rfnd r.L d with
  | none =>
    rw [if_neg (by simp)]
    have e : endR r d c s = (false, r) := by rw [endR, hf]
    rw [e]; exact Ctr.ret () rfl trivial C
  | some x =>
  rw [if_pos (by simp)]
  obtain ⟨hkl, hx, hxd⟩ := rfnd_some hf
  have hll := hr.ll
  obtain ⟨p, q, C⟩ := rtO C
  replace C : Ctx F m w w4 L2 m1 [blk b (r.cells p q) 82, rwsA p r.L, frsA q r.F] := C
  have hcell : ∀ {w' L' m'} {As : List Asn}, Ctx F m w w' L' m' (blk b (r.cells p q) 82 :: As) → w'.cell? ((⟨b, 0, none⟩ : Addr).add 1) = some (slV p r.L.length) ∧ (⟨b, 0, none⟩ : Addr).block ∉ L' := fun D => ⟨by rw [Addr.add_mid]; exact D.blkCell (j := 1) rfl, D.blkAt.2⟩
  refine ⟨_, _, _, (hcell C).1, (hcell C).2, by omega, by simpa using hkl, ?_⟩
  obtain ⟨pa, hpa, hc, hcb⟩ := sl_elem rw_len (by decide) (C.pm [1, 0, 2] rfl) hkl
  rw [hpa, onSome_some]
  refine ⟨r.L[fK r.L d].ended, by rw [Int.toNat_natCast]; exact hc 10 _ rfl, by rw [Int.toNat_natCast]; exact hcb, ?_⟩
  rw [hx]
  cases he : x.ended with
  | true =>
    rw [if_pos (by simp)]
    have e : endR r d c s = (false, r) := by rw [endR, hf]; simp [he]
    rw [e]; exact Ctr.ret () rfl trivial (rtI p q C)
  | false =>
  rw [if_neg (by simp)]
  clear hc hcb hpa pa
  have C1 := C.newDrop [] 94
  refine ⟨_, _, _, (hcell C1).1, (hcell C1).2, ?_⟩
  have C2 : Ctx F m w (w4.alloc (.cells #[] 94)) L2 m1 [blk b (r.cells p q) 82, rwsA p r.L, rwsA (some ⟨w4.heap.size, 0, none⟩, 0) [], frsA q r.F] := (Ctx.slNil (q := some ⟨w4.heap.size, 0, none⟩) (ty := 94) (sz := 13) C1).perm ((List.Perm.swap ..).trans (List.Perm.cons _ (List.Perm.swap ..)))
  obtain ⟨q1, c1, w18, hr1, hk1, C3⟩ := app_all hll (by simp) C2
  refine ⟨q1, _, c1, w18, hr1, hk1, ?_⟩
  rw [List.nil_append] at C3 ⊢
  have C4 : Ctx F m w w18 L2 m1 ([rtA b r] ++ [rwsA (q1, c1) r.L]) := rtI p q (C3.pm [0, 1, 3, 2] rfl)
  refine (c_rold b r d hr).call (As := [rwsA (q1, c1) r.L]) C4 trivial fun _ m2 w20 hk2 hm2 _ C => ⟨_, rfl, hk2, ?_⟩
  have e : IntKind.wrap .i64 ((fK r.L d : Int) + 1) = ((fK r.L d + 1 : Nat) : Int) := by rw [w_i64 (by omega) (by omega)]; omega
  obtain ⟨p', q', C⟩ := rtO C
  have C5 : Ctx F m w w20 L2 m2 [blk b (r.cells p' q') 82, rwsA (q1, c1) r.L, frsA q' r.F] := C.pk [0, 3, 2] [1] rfl
  have hcap := (Ctx.slCap C5.swap).1
  cases ho : oldF r.F d with
  | true =>
    rw [if_pos rfl, e]
    refine ⟨[], facts_nil _ _, by omega, by omega, by omega, by omega, fun w25 L26 h25 g25 => ?_⟩
    rw [Int.toNat_natCast, Int.toNat_natCast]
    obtain ⟨q2, c2, w30, hr3, hk3, C6⟩ := app_cut (by omega) (fK r.L d) hkl (C5.hidL h25 g25)
    refine ⟨q2, _, c2, w30, hr3, hk3, rfl, C6.there _ _ (by simp), C6.blkAt.2, ?_⟩
    have C7 := C6.store 1 [slV (q2, c2) (r.L.take (fK r.L d) ++ r.L.drop (fK r.L d + 1)).length] (by simp)
    have e2 : endR r d c s = (true, { r with L := r.L.take (fK r.L d) ++ r.L.drop (fK r.L d + 1) }) := by rw [endR, hf]; simp [he, ho]
    rw [e2]
    exact Ctr.ret () rfl trivial (rtI (q2, c2) q' C7)
  | false =>
    rw [if_neg (by decide)]
    refine ⟨by omega, by simpa using hkl, ?_⟩
    obtain ⟨a, rfl, ht1, hb1, C6⟩ := put_row (fK r.L d) hkl 10 (.bool true) [] (by decide) { x with ended := true } (by rw [hx]; rfl) C5
    rw [onSome_some, Int.toNat_natCast]
    refine ⟨rfl, ht1, hb1, by omega, by simpa using hkl, ?_⟩
    obtain ⟨a', ea, ht2, hb2, C7⟩ := put_row (fK r.L d) (by rw [List.length_set]; exact hkl) 11 (.int .u8 c) [.string s] (by simp) (x.told c s) (by rw [List.getElem_set_self]; rfl) C6
    injection ea with ea; subst ea
    rw [onSome_some]
    refine ⟨rfl, ht2, hb2, rfl, C7.there _ _ (by simp), C7.blkAt.2, ?_⟩
    have C8 := C7.store 1 [slV (some a, c1) r.L.length] (by simp)
    have e2 : endR r d c s = (true, { r with L := r.L.set (fK r.L d) (x.told c s) }) := by rw [endR, hf]; simp [he, ho]
    rw [List.set_set] at C8
    rw [e2]
    refine Ctr.ret (m' := m2) (L := L2) () rfl trivial (rtI (some a, c1) q' ?_)
    unfold rtAs Rt.cells
    simp only [List.length_set]
    exact C8
end Go.Proofs
