import Derived.Test.YtfhjpjkecjlmjaaU08k
set_option linter.unusedVariables false
set_option linter.unusedSimpArgs false
set_option maxRecDepth 10000
namespace Go.Proofs
open Go X RowKit
theorem rows_setAll (rs : List Pr) (i : Nat) (hi : i < rs.length) (r : Pr) : rows (rs.set i r) = splice (rows rs) (i * 6) r.row := by
  induction rs generalizing i with
  | nil => simp at hi
  | cons x rs ih =>
    cases i with
    | zero =>
      have e : rows (x :: rs) = x.row ++ rows rs := by simp [rows]
      have e2 : rows ((x :: rs).set 0 r) = r.row ++ rows rs := by simp [rows]
      rw [e, e2]
      simp only [splice, Nat.zero_mul, List.take_zero, List.nil_append, Nat.zero_add]
      rw [row_len, ← row_len x, List.drop_left]
    | succ i =>
      have e : rows (x :: rs) = x.row ++ rows rs := by simp [rows]
      have e2 : rows ((x :: rs).set (i + 1) r) = x.row ++ rows (rs.set i r) := by simp [rows]
      rw [e, e2, ih i (by simpa using hi)]
      simp only [splice]
      have h1 : (i + 1) * 6 = x.row.length + i * 6 := by rw [row_len]; omega
      have h2 : (x.row ++ rows rs).take (x.row.length + i * 6) = x.row ++ (rows rs).take (i * 6) := by
        rw [List.take_append, List.take_of_length_le (Nat.le_add_right _ _), Nat.add_sub_cancel_left]
      have h3 : (x.row ++ rows rs).drop (x.row.length + i * 6 + r.row.length) = (rows rs).drop (i * 6 + r.row.length) := by
        rw [Nat.add_assoc, ← List.drop_drop, List.drop_left]
      rw [h1, h2, h3]; simp
/-- an element of an owned slice is turned, whole -/
theorem slPut {n c : Nat} {ty : TypeId} {F0 : List Nat} {m0 : Mem} {w0 w : World} {L : List Nat} {m : Mem} {As : List Asn} {a : Addr} (rs : List Pr) (C : Ctx F0 m0 w0 w L m (slA (.slice (some a) n c) n (rows rs) ty 6 :: As)) (hn : n = rs.length) (i : Nat) (hi : i < rs.length) (r : Pr) :
    a.spot = none ∧ World.there w a.block (a.off + i * 6) 6 ∧ a.block ∉ L ∧ Ctx F0 m0 w0 (w.setCells a.block (a.off + i * 6) r.row) L m (slA (.slice (some a) n c) n (rows (rs.set i r)) ty 6 :: As) := by
  obtain ⟨q', cap', e, h2, h3, h4, h⟩ := C.slO
  injection e with e1 _ e2; subst e1; subst e2
  rcases h with ⟨rfl, _⟩ | ⟨b, pre, rest, e, hl, C'⟩
  · omega
  injection e with e; subst e
  have hlen := rows_len rs
  refine ⟨rfl, C'.there _ _ (by simp; omega), C'.blkAt.2, ?_⟩
  have C2 := C'.store (pre.length + i * 6) r.row (by rw [row_len]; simp; omega)
  refine Ctx.slI (pre := pre) (rest := rest) ?_ (by rw [rows_len, List.length_set, hn]) h3 h4 hl C2
  rw [rows_setAll rs i hi r]
  simp only [splice]
  rw [row_len]
  have e1 : (pre ++ rows rs ++ rest).take (pre.length + i * 6) = pre ++ (rows rs).take (i * 6) := by
    rw [List.append_assoc, List.take_append, List.take_of_length_le (by omega), show pre.length + i * 6 - pre.length = i * 6 by omega, List.take_append_of_le_length (by omega)]
  have e2 : (pre ++ rows rs ++ rest).drop (pre.length + i * 6 + 6) = (rows rs).drop (i * 6 + 6) ++ rest := by
    rw [Nat.add_assoc, ← List.drop_drop, List.append_assoc, List.drop_left, List.drop_append_of_le_length (by omega)]
  rw [e1, e2]; simp
theorem r_TwiceNo (b : Nat) (k : Int) (rs : List Pr) (i : Int) (h : ¬ (0 ≤ i ∧ i < rs.length)) :
    Ctr Try.prog 34 #[.pointer (some ⟨b, 0, none⟩), .int .i64 i] noMem [refA b k rs] (fun _ : Unit => .int .i64 3) (fun _ _ => True) (fun _ => [refA b k rs]) := by
  refine Ctr.mk fun w F m C hp => x_gemotref08_Bag_Twice _ i w _ ?_
  obtain ⟨qb, cb, C⟩ := refO C
  refine (r_there b qb rs.length cb k i).call C trivial fun _ m1 w4 hk hm _ C => ⟨_, rfl, hk.size, ?_⟩
  rw [if_pos (by simp; omega)]
  exact Ctr.ret () rfl trivial (refI C)
theorem r_Twice (b : Nat) (k : Int) (hk2 : k ≤ 2000) (rs : List Pr) (i : Nat) (hi : i < rs.length) (hs : rs[i].p.bs.length ≤ 1000000) :
    Ctr Try.prog 34 #[.pointer (some ⟨b, 0, none⟩), .int .i64 i] (fun m => BySrc m rs[i]) [refA b k rs] (fun _ : Option Addr × Nat => .int .i64 (if (rs.length : Int) ≥ k then 11 else 0))
      (fun x m => (rs.length : Int) ≥ k ∨ BySrc m ⟨rs[i].p, x.1, x.2⟩) (fun x => [refA b k (if (rs.length : Int) ≥ k then rs else rs ++ [(⟨rs[i].p, x.1, x.2⟩ : Pr)])]) := by
  refine Ctr.mk fun w F m C hp => x_gemotref08_Bag_Twice _ i w _ ?_
  obtain ⟨qb, cb, C⟩ := refO C
  refine (r_there b qb rs.length cb k i).call C trivial fun _ m1 w4 hk hm _ C => ⟨_, rfl, hk.size, ?_⟩
  rw [if_neg (by simp; omega)]
  obtain ⟨a, rfl⟩ := slice_some C.swap (rows_ne hi)
  refine ⟨_, _, _, C.blkCell (j := 0) rfl, by omega, by omega, ?_⟩
  rw [onSome_some]
  have hc := (C.swap.slCells.1 a rfl)
  refine ⟨_, _, _, _, _, _, _, _, cells_elem row_len hc.1 i hi, ?_⟩
  refine (r_PutB b k hk2 rs rs[i].p rs[i].q rs[i].c hs).call (As := []) (refI C) (hp.mono hm) fun x m2 w17 hk hm2 hx C => ⟨_, rfl, hk.size, ?_⟩
  exact Ctr.ret x rfl hx C
theorem r_SpoilNo (b : Nat) (k : Int) (rs : List Pr) (i a mask : Int) (h : ¬ (0 ≤ i ∧ i < rs.length)) :
    Ctr Try.prog 35 #[.pointer (some ⟨b, 0, none⟩), .int .i64 i, .int .i64 a, .int .u32 mask] noMem [refA b k rs] (fun _ : Unit => .int .i64 3) (fun _ _ => True) (fun _ => [refA b k rs]) := by
  refine Ctr.mk fun w F m C hp => x_gemotref08_Bag_Spoil _ i a mask w _ ?_
  obtain ⟨qb, cb, C⟩ := refO C
  refine (r_there b qb rs.length cb k i).call C trivial fun _ m1 w4 hk hm _ C => ⟨_, rfl, hk.size, ?_⟩
  rw [if_pos (by simp; omega)]
  exact Ctr.ret () rfl trivial (refI C)
/-- a parcel spoilt -/
def Pc.spoilt (p : Pc) (a mask : Int) : Pc := { p with bs := spoil p.bs a.toNat mask 4, bad := true }
theorem r_Spoil (b : Nat) (k : Int) (rs : List Pr) (hn : rs.length ≤ 2000) (i : Nat) (hi : i < rs.length) (a mask : Int) (hs : rs[i].p.bs.length ≤ 1000000) :
    Ctr Try.prog 35 #[.pointer (some ⟨b, 0, none⟩), .int .i64 i, .int .i64 a, .int .u32 mask] (fun m => BySrc m rs[i]) [refA b k rs] (fun _ : Option Addr × Nat => .int .i64 (spoilE rs[i].p a mask))
      (fun x m => spoilE rs[i].p a mask ≠ 0 ∨ BySrc m ⟨rs[i].p.spoilt a mask, x.1, x.2⟩) (fun x => [refA b k (if spoilE rs[i].p a mask = 0 then rs.set i ⟨rs[i].p.spoilt a mask, x.1, x.2⟩ else rs)]) := by
  refine Ctr.mk fun w F m C hp => x_gemotref08_Bag_Spoil _ i a mask w _ ?_
  obtain ⟨qb, cb, C⟩ := refO C
  refine (r_there b qb rs.length cb k i).call C trivial fun _ m1 w4 hk hm _ C => ⟨_, rfl, hk.size, ?_⟩
  rw [if_neg (by simp; omega)]
  obtain ⟨ad, rfl⟩ := slice_some C.swap (rows_ne hi)
  refine ⟨_, _, _, C.blkCell (j := 0) rfl, by omega, by omega, ?_⟩
  rw [onSome_some]
  have hc := (C.swap.slCells.1 ad rfl)
  refine ⟨_, _, _, _, _, _, _, _, cells_elem row_len hc.1 i hi, ?_⟩
  have bad : ∀ (e : Int), e ≠ 0 → spoilE rs[i].p a mask = e → ∀ w', X.Hid [] w4 w' → ∃ j m' L, Ending.returned (.int .i64 e) = .returned ((fun _ : Option Addr × Nat => Value.int .i64 (spoilE rs[i].p a mask)) j) ∧
      (fun (x : Option Addr × Nat) m => spoilE rs[i].p a mask ≠ 0 ∨ BySrc m ⟨rs[i].p.spoilt a mask, x.1, x.2⟩) j m' ∧ Ctx F m w w' L m' [refA b k (if spoilE rs[i].p a mask = 0 then rs.set i ⟨rs[i].p.spoilt a mask, j.1, j.2⟩ else rs)] := fun e h0 he w' h' =>
    ⟨(none, 0), m1, [], by rw [he], .inl (by rw [he]; exact h0), by rw [if_neg (by rw [he]; exact h0)]; exact refI (C.hid0 h')⟩
  by_cases hb : rs[i].p.bad = true
  · rw [if_pos hb]
    exact bad 4 (by omega) (by simp [spoilE, hb])
  rw [if_neg hb]
  by_cases hm0 : mask = 0
  · rw [if_pos (by simp [hm0])]
    exact bad 1 (by omega) (by simp [spoilE, hb, hm0])
  rw [if_neg (by simp [hm0])]
  by_cases ha : a < 0 ∨ (rs[i].p.bs.length : Int) - 4 < a
  · rw [if_pos (by rw [w_i64 (by omega) (by omega)]; simp; omega)]
    exact bad 2 (by omega) (by simp only [spoilE, if_neg hb, if_neg hm0, if_pos ha])
  rw [if_neg (by rw [w_i64 (by omega) (by omega)]; simp; omega)]
  have hE : spoilE rs[i].p a mask = 0 := by simp only [spoilE, if_neg hb, if_neg hm0, if_neg ha]
  intro w16 L17 h16 g16
  replace C := C.hidL h16 g16
  have C0 := C.newDrop [] 5
  have C1 := C0.slNil (q := some ⟨w16.heap.size, 0, none⟩) (ty := 5) (sz := 1)
  obtain ⟨q1, c1, w21, hr, hk1, C2⟩ := C1.app (P := Try.prog) (bytes := 1) (t := 32) (t2 := 32) 32 (by kernel_rfl) (C1.src (hp.mono hm)) (by omega) (byV_one rs[i].p.bs)
  rw [Nat.zero_add] at hr C2
  refine ⟨q1, rs[i].p.bs.length, c1, w21, hr, hk1, ?_⟩
  have hq1 : ∃ ab, q1 = some ab := slice_some C2 (fun e => by have := byV_len rs[i].p.bs; rw [List.nil_append] at e; rw [e] at this; simp at this; omega)
  obtain ⟨ab, rfl⟩ := hq1
  refine ⟨fun n w' L => ∃ j : Nat, n = j ∧ j ≤ 4 ∧ Ctx F m w w' L m1 (slA (.slice (some ab) rs[i].p.bs.length c1) rs[i].p.bs.length (byV (spoil rs[i].p.bs a.toNat mask j)) 5 1 :: [refB b (.slice (some ad) rs.length cb) k, refR (some ad) cb rs]), fun n _ => (4 - n).toNat, ⟨0, rfl, by omega, C2⟩, ?_⟩
  rintro n w25 L26 _ ⟨j, rfl, hj, D⟩
  have hlen := spoil_len rs[i].p.bs a.toNat mask j
  by_cases hlt : j < 4
  · generalize hbs : spoil rs[i].p.bs a.toNat mask j = cur at D hlen
    rw [if_pos (by simp; omega)]
    have e1 : IntKind.wrap .i64 (a + (j : Int)) = ((a.toNat + j : Nat) : Int) := by rw [w_i64 (by omega) (by omega)]; omega
    have e2 : IntKind.wrap .i64 (8 * (j : Int)) = ((8 * j : Nat) : Int) := by rw [w_i64 (by omega) (by omega)]; omega
    have e3 : IntKind.wrap .i64 ((j : Int) + 1) = ((j + 1 : Nat) : Int) := by rw [w_i64 (by omega) (by omega)]; omega
    have e4 : IntKind.wrap .u64 ((8 * j : Nat) : Int) = ((8 * j : Nat) : Int) := w_u64 (by omega) (by omega)
    rw [e1, e2, e4]
    simp only [Int.toNat_natCast, Nat.mul_one]
    have hget : (byV cur)[a.toNat + j]? = some (.int .u8 ((cur[a.toNat + j]'(by omega)).toNat : Int)) := byV_get _ _ (by omega)
    have hbc := (D.slCells.1 ab rfl)
    have hnb := hbc.2 (fun e => by rw [e] at hget; simp at hget)
    obtain ⟨s1, s2, s3, D3⟩ := slSet D (a.toNat + j) (by rw [byV_len]; omega) (.int .u8 ((spb (cur[a.toNat + j]'(by omega)) mask j).toNat : Int))
    refine ⟨by omega, by omega, ?_⟩
    rw [onSome_some]
    refine ⟨_, hbc.1 _ _ hget, by rw [addr_block]; exact hnb, by omega, by omega, by omega, ?_⟩
    rw [onSome_some, spb_val, e3]
    have hadd : ab.add (a.toNat + j) = ⟨ab.block, ab.off + (a.toNat + j), none⟩ := by
      obtain ⟨x1, x2, x3⟩ := ab; simp only at s1; subst s1; exact Addr.add_mid ..
    rw [hadd]
    refine ⟨rfl, s2, s3, trivial, ⟨j + 1, rfl, by omega, ?_⟩, ?_⟩
    · rw [← byV_set] at D3
      have e5 : cur.set (a.toNat + j) (spb (cur[a.toNat + j]'(by omega)) mask j) = spoil rs[i].p.bs a.toNat mask (j + 1) := by
        simp only [spoil, hbs]
        congr 2
        rw [List.getD_eq_getElem?_getD, List.getElem?_eq_getElem (by omega)]; rfl
      rw [e5] at D3
      exact D3
    · show (4 - ((j + 1 : Nat) : Int)).toNat + 1 ≤ (4 - (j : Int)).toNat
      omega
  · have hj4 : j = 4 := by omega
    subst hj4
    rw [if_neg (by simp)]
    have E0 := D.newDrop [] 34
    have E1 := E0.swap
    refine ⟨some ad, rs.length, cb, E1.blkCell (j := 0) rfl, E1.blkAt.2, ?_⟩
    have E2 := E0.slNil (q := some ⟨w25.heap.size, 0, none⟩) (ty := 34) (sz := 6)
    have s0 : Src (w25.alloc (.cells #[] 34)) 6 (.slice (some ad) rs.length cb) rs.length (rows rs) := (E0.third).slSrc
    obtain ⟨q2, c2, w33, hr2, hk2, E3⟩ := E2.app (P := Try.prog) (bytes := 64) (t := 27) (t2 := 27) 27 (by kernel_rfl) s0 (by omega) (rows_one _)
    rw [Nat.zero_add] at hr2 E3
    rw [List.nil_append] at E3
    obtain ⟨a2, rfl⟩ := slice_some E3 (rows_ne hi)
    refine ⟨some a2, rs.length, c2, w33, hr2, hk2, by omega, by omega, ?_⟩
    rw [onSome_some]
    simp only [Int.toNat_natCast]
    -- the element is turned, whole
    have key : ∃ r' : Pr, r' = ⟨rs[i].p.spoilt a mask, some ab, c1⟩ := ⟨_, rfl⟩
    obtain ⟨r', hr'⟩ := key
    obtain ⟨t1, t2, t3, E4⟩ := slPut rs E3 rfl i hi r'
    have hadd : a2.add (i * 6) = ⟨a2.block, a2.off + i * 6, none⟩ := by
      obtain ⟨x1, x2, x3⟩ := a2; simp only at t1; subst t1; exact Addr.add_mid ..
    rw [hadd]
    have hrow : Pr.row r' = [.int .u8 rs[i].p.fn, .int .u16 rs[i].p.fl, .int .u8 rs[i].p.tn, .int .u16 rs[i].p.tl, .slice (some ab) rs[i].p.bs.length c1, .bool true] := by
      rw [hr']; simp [Pr.row, Pc.row, Pc.spoilt, spoil_len]
    rw [hrow] at E4
    have E5 := E4.third
    refine ⟨by trivial, t2, t3, by trivial, E5.there 0 1 (by simp), E5.blkAt.2, ?_⟩
    have E6 := E5.store 0 [.slice (some a2) rs.length c2] (by simp)
    have E7 : Ctx F m w _ L26 m1 [slA (.slice (some ab) rs[i].p.bs.length c1) rs[i].p.bs.length (byV (spoil rs[i].p.bs a.toNat mask 4)) 5 1, refB b (.slice (some a2) rs.length c2) k, slA (.slice (some a2) rs.length c2) rs.length (rows (rs.set i r')) 34 6, refR (some ad) cb rs] := E6.third
    obtain ⟨m', hm', hs', E8⟩ := E7.slShare
    refine ⟨(some ab, c1), m', L26, by rw [hE], .inr ?_, ?_⟩
    · show MSrc m' 1 (.slice (some ab) (rs[i].p.spoilt a mask).bs.length c1) (rs[i].p.spoilt a mask).bs.length (byV (rs[i].p.spoilt a mask).bs)
      have : (rs[i].p.spoilt a mask).bs.length = rs[i].p.bs.length := spoil_len ..
      rw [this]; exact hs'
    · rw [if_pos hE, ← hr']
      refine refI (q := some a2) (c := c2) ?_
      have e3 : (rs.set i r').length = rs.length := by simp
      show Ctx _ _ _ _ _ _ [refB b (.slice (some a2) (rs.set i r').length c2) k, slA (.slice (some a2) (rs.set i r').length c2) (rs.set i r').length _ 34 6]
      rw [e3]
      exact (E8.third).drop
end Go.Proofs
