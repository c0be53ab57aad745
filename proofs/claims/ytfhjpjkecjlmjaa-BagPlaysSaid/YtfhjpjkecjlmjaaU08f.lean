import Derived.Test.YtfhjpjkecjlmjaaU08e
set_option linter.unusedVariables false
set_option linter.unusedSimpArgs false
set_option maxRecDepth 10000
namespace Go.Proofs
open Go X RowKit
/-- bytes that are owned, whatever they are -/
def anyB (q : Option Addr) (n c : Nat) : Asn := Asn.ex fun bs : List UInt8 => Asn.pr (bs.length = n) (slA (.slice q n c) n (byV bs) 5 1)
section
variable {F0 : List Nat} {m0 : Mem} {w0 w : World} {L : List Nat} {m : Mem} {As : List Asn}
theorem anyB_I {q : Option Addr} {c : Nat} {bs : List UInt8} (C : Ctx F0 m0 w0 w L m (slB q c bs :: As)) : Ctx F0 m0 w0 w L m (anyB q bs.length c :: As) := Ctx.exI bs (Ctx.prI rfl C)
/-- one byte is turned -/
theorem anyB_at {q : Option Addr} {n c j : Nat} (C : Ctx F0 m0 w0 w L m (anyB q n c :: As)) (hj : j < n) : ∃ a, q = some a ∧ a.spot = none ∧ a.block ∉ L ∧ a.block < w.heap.size ∧ ∃ x : UInt8, w.cell? (a.add j) = some (.int .u8 x.toNat) := by
  obtain ⟨bs, C⟩ := C.ex
  obtain ⟨hl, C⟩ := C.pr
  subst hl
  obtain ⟨a, rfl⟩ := slice_some C (fun e => by have := byV_len bs; rw [e] at this; simp at this; omega)
  obtain ⟨s1, s2, s3, _⟩ := slSet C j (by rw [byV_len]; exact hj) (.int .u8 0)
  have hc := (C.slCells.1 a rfl).1 j _ (byV_get bs j hj)
  have hb := World.block_lt_of_cell? w _ hc
  rw [addr_block] at hb
  exact ⟨a, rfl, s1, s3, hb, bs[j], hc⟩
theorem anyB_set {a : Addr} {n c j : Nat} (C : Ctx F0 m0 w0 w L m (anyB (some a) n c :: As)) (hj : j < n) (x : UInt8) : World.there w a.block (a.off + j) 1 ∧ a.block ∉ L ∧ Ctx F0 m0 w0 (w.setCells a.block (a.off + j) [.int .u8 x.toNat]) L m (anyB (some a) n c :: As) := by
  obtain ⟨bs, C⟩ := C.ex
  obtain ⟨hl, C⟩ := C.pr
  subst hl
  obtain ⟨s1, s2, s3, C⟩ := slSet C j (by rw [byV_len]; exact hj) (.int .u8 x.toNat)
  rw [← byV_set] at C
  exact ⟨s2, s3, Ctx.exI (bs.set j x) (Ctx.prI (by simp) C)⟩
end
/-- what becomes of a parcel that is to be spoilt -/
def spoilR (r : Pr) (a mask : Int) : Pr := if spoilE r.p a mask = 0 then ⟨{ r.p with bs := spoil r.p.bs a.toNat mask 4, bad := true }, r.q, r.c⟩ else r
theorem c_Spoil (b : Nat) (k : Int) (rs : List Pr) (q : Option Addr) (c : Nat) (i : Nat) (hi : i < rs.length) (a mask : Int) (hs : rs[i].p.bs.length ≤ 1000000) :
    Ctr Try.prog 14 #[.pointer (some ⟨b, 0, none⟩), .int .i64 i, .int .i64 a, .int .u32 mask] noMem [bagB b (.slice q rs.length c) k, rowsA q c rs, rs[i].own] (fun _ : Unit => .int .i64 (spoilE rs[i].p a mask)) (fun _ _ => True)
      (fun _ => [bagB b (.slice q (rs.set i (spoilR rs[i] a mask)).length c) k, rowsA q c (rs.set i (spoilR rs[i] a mask)), (spoilR rs[i] a mask).own]) := by
  refine Ctr.mk fun w F m C _ => ?_
  have e6 : (rs.set i (spoilR rs[i] a mask)).length = rs.length := by simp
  by_cases h : spoilE rs[i].p a mask = 0
  · refine (c_SpoilOk b k rs q c i hi a mask h hs).calls (As := []) C trivial fun _ m1 w1 _ _ _ C => ?_
    rw [h]
    refine Ctr.ret (m' := m1) (L := []) () rfl trivial ?_
    rw [e6]
    have e7 : spoilR rs[i] a mask = ⟨{ rs[i].p with bs := spoil rs[i].p.bs a.toNat mask 4, bad := true }, rs[i].q, rs[i].c⟩ := by unfold spoilR; rw [if_pos h]
    rw [e7]
    exact C.perm (List.Perm.swap _ _ _)
  · refine (c_SpoilBad b k rs q c i hi a mask h hs).calls (As := [rs[i].own]) C trivial fun _ m1 w1 _ _ _ C => ?_
    refine Ctr.ret (m' := m1) (L := []) () rfl trivial ?_
    have e7 : spoilR rs[i] a mask = rs[i] := by unfold spoilR; rw [if_neg h]
    have e8 : rs.set i rs[i] = rs := List.set_getElem_self hi
    rw [e7, e8]
    exact C
theorem inc_u8 (x : UInt8) : IntKind.wrap .u8 ((x.toNat : Int) + 1) = ((x + 1).toNat : Int) := by
  have hx := x.toNat_lt
  have : (x + 1).toNat = (x.toNat + 1) % 256 := by simp [UInt8.toNat_add]
  rw [this]
  simp [IntKind.wrap, IntKind.bits, IntKind.signed]
theorem l_BagApart (w : World) (p : Pc) (q : Option Addr) (c : Nat) (hp : MSrc (memOf w) 1 (.slice q p.bs.length c) p.bs.length (byV p.bs)) : Calls Try.prog 4 #[p.V q c] w (LawR w) := by
  refine x_gemotlaw08_BagApart _ _ _ _ _ _ _ _ w _ ?_
  have C := lawStart w
  by_cases hl : (p.bs.length : Int) > 2000
  · rw [if_neg (by simp; omega)]
    intro w1 L1 h1 g1
    refine c_knows.call (C.hidL h1 g1) trivial fun _ m1 w2 hk hm _ C => ⟨_, rfl, hk, rfl, C.at_⟩
  rw [if_pos (by simp; omega)]
  intro w6 L7 h6 g6
  refine c_knows.call (C.hidL h6 g6) trivial fun _ m1 w9 hk hm1 _ C => ⟨_, rfl, hk, ?_⟩
  rw [if_neg (by decide)]
  refine (c_New 3).call C trivial fun b m2 w12 hk hm2 _ C => ⟨_, rfl, hk, ?_⟩
  refine (c_Own p q c (by omega)).call (As := [bagA b (min (max 3 0) 2000) []]) C (hp.mono C.le) fun x m3 w15 hk hm3 _ C => ⟨_, _, _, _, _, _, _, _, rfl, hk, fun w24 L25 h24 g24 => ?_⟩
  replace C := C.hidL h24 g24
  obtain ⟨qb, cb, C⟩ := bagO C.swap
  have C1 : Ctx [] (memOf w) w w24 L25 m3 ([bagB b (.slice qb 0 cb) 3, rowsA qb cb []] ++ slB x.1 x.2 p.bs :: []) := C
  refine (c_PutOk b 3 (by omega) [] qb cb p x.1 x.2 (by omega) (by simp)).callL C1 (fun F' hF _ => slLend hF) fun y w27 hk _ C => ⟨_, rfl, hk, ?_⟩
  have C2 : Ctx [] (memOf w) w w27 L25 m3 (anyB x.1 p.bs.length x.2 :: [bagB b (.slice y.2.1 1 y.2.2) 3, rowsA y.2.1 y.2.2 [⟨p, y.1, p.bs.length⟩], slB y.1 p.bs.length p.bs]) := anyB_I (Ctx.perm C (List.perm_append_comm (l₂ := [slB x.1 x.2 p.bs])))
  refine ⟨fun n w' L => ∃ j : Nat, n = j ∧ j ≤ p.bs.length ∧ Ctx [] (memOf w) w w' L m3 (anyB x.1 p.bs.length x.2 :: [bagB b (.slice y.2.1 1 y.2.2) 3, rowsA y.2.1 y.2.2 [⟨p, y.1, p.bs.length⟩], slB y.1 p.bs.length p.bs]), fun n _ => (p.bs.length - n).toNat, ⟨0, rfl, by omega, C2⟩, ?_⟩
  rintro n31 w32 L33 _ ⟨j, rfl, hj, C⟩
  by_cases hlt : j < p.bs.length
  · rw [if_pos (by simpa using hlt)]
    obtain ⟨a, ha, hsp, hbL, hbw, v, hv⟩ := anyB_at C hlt
    rw [ha] at C ⊢
    refine ⟨[(a.add j, [.int .u8 v.toNat])], factsOne (fun t u ht => by cases t with
      | zero => simp at ht; subst ht; rw [Addr.add_zero']; exact hv
      | succ t => simp at ht) (by rw [addr_block]; exact hbw) (by rw [addr_block]; exact hbL), by omega, by omega, ?_⟩
    rw [onSome_some]
    refine ⟨_, by simp only [Int.toNat_natCast, Nat.mul_one]; exact List.mem_cons_self, by omega, by omega, ?_⟩
    rw [onSome_some]
    intro w98 L99 h98 g98
    replace C := C.hidL h98 g98
    simp only [Int.toNat_natCast, Nat.mul_one]
    have hadd : a.add j = ⟨a.block, a.off + j, none⟩ := by
      obtain ⟨x1, x2, x3⟩ := a; simp only at hsp; subst hsp; exact Addr.add_mid ..
    rw [hadd, inc_u8]
    obtain ⟨t1, t2, C⟩ := anyB_set C hlt (v + 1)
    have e : IntKind.wrap .i64 ((j : Int) + 1) = ((j + 1 : Nat) : Int) := by rw [w_i64 (by omega) (by omega)]; omega
    rw [e]
    refine ⟨rfl, t1, t2, trivial, trivial, ⟨j + 1, rfl, hlt, C⟩, ?_⟩
    show ((p.bs.length : Int) - ((j + 1 : Nat) : Int)).toNat + 1 ≤ ((p.bs.length : Int) - (j : Int)).toNat
    omega
  rw [if_neg (by simpa using hlt)]
  have C3 := Ctx.drop C
  refine (c_Look b 3 [⟨p, y.1, p.bs.length⟩] y.2.1 y.2.2 0 (by simp) (by simp; omega)).call C3 trivial fun z m4 w35 hk hm4 _ C => ⟨_, _, _, _, _, _, _, _, _, rfl, hk, fun w45 L46 h45 g45 => ?_⟩
  replace C := C.hidL h45 g45
  have C4 : Ctx [] (memOf w) w w45 L46 m4 (anyB z p.bs.length p.bs.length :: [bagB b (.slice y.2.1 1 y.2.2) 3, rowsA y.2.1 y.2.2 [⟨p, y.1, p.bs.length⟩], slB y.1 p.bs.length p.bs]) := anyB_I C
  refine ⟨fun n w' L => ∃ j : Nat, n = j ∧ j ≤ p.bs.length ∧ Ctx [] (memOf w) w w' L m4 (anyB z p.bs.length p.bs.length :: [bagB b (.slice y.2.1 1 y.2.2) 3, rowsA y.2.1 y.2.2 [⟨p, y.1, p.bs.length⟩], slB y.1 p.bs.length p.bs]), fun n _ => (p.bs.length - n).toNat, ⟨0, rfl, by omega, C4⟩, ?_⟩
  rintro n49 w50 L51 _ ⟨j, rfl, hj, C⟩
  by_cases hlt : j < p.bs.length
  · rw [if_pos (by simpa using hlt)]
    obtain ⟨a, ha, hsp, hbL, hbw, v, hv⟩ := anyB_at C hlt
    rw [ha] at C ⊢
    refine ⟨[(a.add j, [.int .u8 v.toNat])], factsOne (fun t u ht => by cases t with
      | zero => simp at ht; subst ht; rw [Addr.add_zero']; exact hv
      | succ t => simp at ht) (by rw [addr_block]; exact hbw) (by rw [addr_block]; exact hbL), by omega, by simpa using hlt, ?_⟩
    rw [onSome_some]
    refine ⟨_, by simp only [Int.toNat_natCast, Nat.mul_one]; exact List.mem_cons_self, by omega, by simpa using hlt, ?_⟩
    rw [onSome_some]
    intro w98 L99 h98 g98
    replace C := C.hidL h98 g98
    simp only [Int.toNat_natCast, Nat.mul_one]
    have hadd : a.add j = ⟨a.block, a.off + j, none⟩ := by
      obtain ⟨x1, x2, x3⟩ := a; simp only at hsp; subst hsp; exact Addr.add_mid ..
    rw [hadd, inc_u8]
    obtain ⟨t1, t2, C⟩ := anyB_set C hlt (v + 1)
    have e : IntKind.wrap .i64 ((j : Int) + 1) = ((j + 1 : Nat) : Int) := by rw [w_i64 (by omega) (by omega)]; omega
    rw [e]
    refine ⟨rfl, t1, t2, trivial, trivial, trivial, ⟨j + 1, rfl, hlt, C⟩, ?_⟩
    show ((p.bs.length : Int) - ((j + 1 : Nat) : Int)).toNat + 1 ≤ ((p.bs.length : Int) - (j : Int)).toNat
    omega
  rw [if_neg (by simpa using hlt)]
  have C5 := Ctx.drop C
  refine (c_TwiceOk b 3 (by omega) [⟨p, y.1, p.bs.length⟩] y.2.1 y.2.2 0 (by simp) (by simp; omega) (by simp)).call C5 trivial fun z2 m5 w53 hk hm5 _ C => ⟨_, rfl, hk, ?_⟩
  replace C := C.perm (List.Perm.cons _ (List.Perm.cons _ (List.Perm.swap _ _ _)))
  refine (c_Spoil b 3 [⟨p, y.1, p.bs.length⟩, ⟨p, z2.1, p.bs.length⟩] z2.2.1 z2.2.2 0 (by simp) 0 7 (by simp; omega)).call C trivial fun _ m6 w56 hk hm6 _ C => ⟨_, rfl, hk, ?_⟩
  replace C := C.perm (List.Perm.cons _ (List.Perm.cons _ (List.Perm.swap _ _ _)))
  obtain ⟨r0, hr0⟩ : ∃ r0, spoilR (⟨p, y.1, p.bs.length⟩ : Pr) 0 7 = r0 := ⟨_, rfl⟩
  replace C : Ctx [] (memOf w) w w56 L51 m6 [bagB b (.slice z2.2.1 2 z2.2.2) 3, rowsA z2.2.1 z2.2.2 [spoilR ⟨p, y.1, p.bs.length⟩ 0 7, ⟨p, z2.1, p.bs.length⟩], slB z2.1 p.bs.length p.bs, (spoilR (⟨p, y.1, p.bs.length⟩ : Pr) 0 7).own] := C
  rw [hr0] at C
  refine (c_Take b 3 [r0, ⟨p, z2.1, p.bs.length⟩] z2.2.1 z2.2.2 1 (by simp) (by simp; omega) (by simp)).call C trivial fun z3 m7 w59 hk hm7 _ C => ⟨_, _, _, _, _, _, _, _, _, rfl, hk, [], facts_nil _ _, fun w70 L71 h70 g70 => ?_⟩
  replace C := C.hidL h70 g70
  refine C.gives (c_num _) fun w73 k73 C => ⟨_, rfl, k73, facts_nil _ _, [], facts_nil _ _, fun _ h => h, ?_⟩
  rw [if_pos (by decide)]
  obtain ⟨m8, hm8, hs8, C⟩ := (Ctx.third C).slShare
  refine (c_Ref p z3 p.bs.length (by omega)).call C hs8 fun x4 m9 w76 hk hm9 _ C => ⟨_, _, _, _, _, _, _, _, rfl, hk, facts_nil _ _, ?_⟩
  obtain ⟨m10, hm10, hs10, C⟩ := Ctx.slShare C
  refine (c_Same p p x4.1 q x4.2 c).call (As := _) C ⟨hs10, hp.mono C.le⟩ fun _ m11 w86 hk hm11 _ C => ⟨_, rfl, hk, facts_nil _ _, ?_⟩
  rw [sameP_self]
  exact ⟨rfl, C.at_⟩
end Go.Proofs
