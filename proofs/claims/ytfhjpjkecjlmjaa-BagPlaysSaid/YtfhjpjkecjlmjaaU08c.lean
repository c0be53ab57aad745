import Derived.Test.YtfhjpjkecjlmjaaU08b
set_option linter.unusedVariables false
set_option linter.unusedSimpArgs false
set_option maxRecDepth 10000
namespace Go.Proofs
open Go X RowKit
theorem c_TwiceNo (b : Nat) (q : Option Addr) (n c : Nat) (k : Int) (i : Int) (h : i < 0 ∨ (n : Int) ≤ i) :
    Ctr Try.prog 13 #[.pointer (some ⟨b, 0, none⟩), .int .i64 i] noMem [bagB b (.slice q n c) k] (fun _ : Unit => .int .i64 3) (fun _ _ => True) (fun _ => [bagB b (.slice q n c) k]) := by
  refine Ctr.mk fun w F m C _ => x_bag_Bag_Twice _ i w _ ?_
  refine (c_find_no b q n c k i h).call C trivial fun _ m1 w4 hk hm _ C => ⟨_, _, rfl, hk.size, ?_⟩
  rw [if_pos (by decide)]
  exact Ctr.ret () rfl trivial C
theorem c_TwiceFull (b : Nat) (k : Int) (rs : List Pr) (q : Option Addr) (c : Nat) (i : Nat) (hi : i < rs.length) (hfull : (rs.length : Int) ≥ k) :
    Ctr Try.prog 13 #[.pointer (some ⟨b, 0, none⟩), .int .i64 i] noMem [bagB b (.slice q rs.length c) k, rowsA q c rs] (fun _ : Unit => .int .i64 11) (fun _ _ => True) (fun _ => [bagB b (.slice q rs.length c) k, rowsA q c rs]) := by
  refine Ctr.mk fun w F m C _ => x_bag_Bag_Twice _ i w _ ?_
  obtain ⟨a, rfl⟩ := slice_some C.swap (rows_ne hi)
  refine (c_find b a rs.length c k i (by omega) (by omega)).call C trivial fun _ m1 w4 hk hm _ C => ⟨_, _, rfl, hk.size, ?_⟩
  rw [if_neg (by decide), onSome_some]
  have hc := (C.swap.slCells.1 a rfl)
  refine ⟨_, _, _, _, _, _, _, _, cells_elem row_len hc.1 i hi, ?_⟩
  refine (c_PutFull b (some a, rs.length, c) k rs[i].p rs[i].q rs[i].c hfull).call C trivial fun _ m2 w17 hk hm2 _ C => ⟨_, rfl, hk.size, Ctr.ret () rfl trivial C⟩
theorem c_TwiceOk (b : Nat) (k : Int) (hk2 : k ≤ 2000) (rs : List Pr) (q : Option Addr) (c : Nat) (i : Nat) (hi : i < rs.length) (hs : rs[i].p.bs.length ≤ 1000000) (hfull : (rs.length : Int) < k) :
    Ctr Try.prog 13 #[.pointer (some ⟨b, 0, none⟩), .int .i64 i] noMem [bagB b (.slice q rs.length c) k, rowsA q c rs, rs[i].own]
      (fun _ : Option Addr × Option Addr × Nat => .int .i64 0) (fun _ _ => True)
      (fun x => [bagB b (.slice x.2.1 (rs ++ [(⟨rs[i].p, x.1, rs[i].p.bs.length⟩ : Pr)]).length x.2.2) k, rowsA x.2.1 x.2.2 (rs ++ [(⟨rs[i].p, x.1, rs[i].p.bs.length⟩ : Pr)]), slB x.1 rs[i].p.bs.length rs[i].p.bs, rs[i].own]) := by
  refine Ctr.mk fun w F m C _ => x_bag_Bag_Twice _ i w _ ?_
  obtain ⟨a, rfl⟩ := slice_some C.swap (rows_ne hi)
  refine (c_find b a rs.length c k i (by omega) (by omega)).call C trivial fun _ m1 w4 hk hm _ C => ⟨_, _, rfl, hk.size, ?_⟩
  rw [if_neg (by decide), onSome_some]
  have hc := (C.swap.slCells.1 a rfl)
  refine ⟨_, _, _, _, _, _, _, _, cells_elem row_len hc.1 i hi, ?_⟩
  refine (c_PutOk b k hk2 rs (some a) c rs[i].p rs[i].q rs[i].c hs hfull).callL (A := rs[i].own) (As := []) C (fun F' hF _ => slLend hF) fun x w17 hk _ C => ⟨_, rfl, hk.size, ?_⟩
  exact Ctr.ret x rfl trivial C

/-- a byte that is spoilt -/
def spb (o : UInt8) (mask : Int) (j : Nat) : UInt8 := UInt8.ofNat ((BitVec.ofInt 8 (o.toNat : Int) ^^^ BitVec.ofInt 8 (IntKind.u8.wrap (mask.fdiv (2 ^ min (8 * j) 32)))).toNat)
def spoil (bs : List UInt8) (a : Nat) (mask : Int) : Nat → List UInt8
  | 0 => bs
  | j + 1 => (spoil bs a mask j).set (a + j) (spb ((spoil bs a mask j).getD (a + j) 0) mask j)
theorem spoil_len (bs : List UInt8) (a : Nat) (mask : Int) (j : Nat) : (spoil bs a mask j).length = bs.length := by
  induction j with
  | zero => rfl
  | succ j ih => simp [spoil, ih]
theorem spb_val (o : UInt8) (mask : Int) (j : Nat) : IntKind.wrap .u8 (((BitVec.ofInt 8 (o.toNat : Int) ^^^ BitVec.ofInt 8 (IntKind.u8.wrap (mask.fdiv (2 ^ min (8 * j) 32)))).toNat : Nat) : Int) = ((spb o mask j).toNat : Int) := by
  unfold spb
  generalize BitVec.ofInt 8 (o.toNat : Int) ^^^ BitVec.ofInt 8 (IntKind.u8.wrap (mask.fdiv (2 ^ min (8 * j) 32))) = x
  have hx := x.isLt
  rw [w_u8 (by omega) (by omega)]
  have : (UInt8.ofNat x.toNat).toNat = x.toNat % 256 := rfl
  rw [this, Nat.mod_eq_of_lt (by omega)]
theorem byV_get (bs : List UInt8) (j : Nat) (hj : j < bs.length) : (byV bs)[j]? = some (.int .u8 (bs[j].toNat : Int)) := by
  simp [byV, hj]
theorem byV_set (bs : List UInt8) (j : Nat) (x : UInt8) : byV (bs.set j x) = (byV bs).set j (.int .u8 (x.toNat : Int)) := by
  simp [byV, List.map_set]
theorem splice_one (l : List Value) (o : Nat) (v : Value) (h : o < l.length) : splice l o [v] = l.set o v := by
  simp only [splice, List.length_singleton]
  rw [List.set_eq_take_append_cons_drop, if_pos h]
  simp
/-- one cell of an owned slice is turned -/
theorem slSet {n c : Nat} {cs : List Value} {ty : TypeId} {sz : Nat} {F0 : List Nat} {m0 : Mem} {w0 w : World} {L : List Nat} {m : Mem} {As : List Asn} {a : Addr} (C : Ctx F0 m0 w0 w L m (slA (.slice (some a) n c) n cs ty sz :: As)) (j : Nat) (hj : j < cs.length) (v : Value) :
    a.spot = none ∧ World.there w a.block (a.off + j) 1 ∧ a.block ∉ L ∧ Ctx F0 m0 w0 (w.setCells a.block (a.off + j) [v]) L m (slA (.slice (some a) n c) n (cs.set j v) ty sz :: As) := by
  obtain ⟨q', cap', e, h2, h3, h4, h⟩ := C.slO
  injection e with e1 _ e2; subst e1; subst e2
  rcases h with ⟨rfl, _⟩ | ⟨b, pre, rest, e, hl, C'⟩
  · have : n = 0 := by omega
    subst this; simp at h2; subst h2; simp at hj
  injection e with e; subst e
  refine ⟨rfl, C'.there _ _ (by simp; omega), C'.blkAt.2, ?_⟩
  have C2 := C'.store (pre.length + j) [v] (by simp; omega)
  refine Ctx.slI (pre := pre) (rest := rest) ?_ (by rw [List.length_set]; exact h2) h3 h4 hl C2
  rw [splice_one _ _ _ (by simp; omega), List.append_assoc, List.append_assoc, List.set_append_right _ _ (by omega), List.set_append_left _ _ (by omega)]
  congr 3; omega
theorem rows_set (rs : List Pr) (i : Nat) (hi : i < rs.length) (r : Pr) (k : Nat) (hk : k < 6) (v : Value) (hr : r.row = (rs[i].row).set k v) : rows (rs.set i r) = (rows rs).set (i * 6 + k) v := by
  induction rs generalizing i with
  | nil => simp at hi
  | cons x rs ih =>
    cases i with
    | zero =>
      have e : rows (x :: rs) = x.row ++ rows rs := by simp [rows]
      have e2 : rows ((x :: rs).set 0 r) = r.row ++ rows rs := by simp [rows]
      rw [e, e2, List.set_append_left _ _ (by rw [row_len]; omega)]
      simp only [List.getElem_cons_zero] at hr
      rw [hr]; simp
    | succ i =>
      have e : rows (x :: rs) = x.row ++ rows rs := by simp [rows]
      have e2 : rows ((x :: rs).set (i + 1) r) = x.row ++ rows (rs.set i r) := by simp [rows]
      rw [e, e2, List.set_append_right _ _ (by rw [row_len]; omega), ih i (by simpa using hi) hr, row_len]
      congr 2; omega
theorem c_SpoilNo (b : Nat) (q : Option Addr) (n c : Nat) (k : Int) (i a mask : Int) (h : i < 0 ∨ (n : Int) ≤ i) :
    Ctr Try.prog 14 #[.pointer (some ⟨b, 0, none⟩), .int .i64 i, .int .i64 a, .int .u32 mask] noMem [bagB b (.slice q n c) k] (fun _ : Unit => .int .i64 3) (fun _ _ => True) (fun _ => [bagB b (.slice q n c) k]) := by
  refine Ctr.mk fun w F m C _ => x_bag_Bag_Spoil _ i a mask w _ ?_
  refine (c_find_no b q n c k i h).call C trivial fun _ m1 w4 hk hm _ C => ⟨_, _, rfl, hk.size, ?_⟩
  rw [if_pos (by decide)]
  exact Ctr.ret () rfl trivial C
/-- what spoiling says -/
def spoilE (p : Pc) (a mask : Int) : Int := if p.bad then 4 else if mask = 0 then 1 else if a < 0 ∨ (p.bs.length : Int) - 4 < a then 2 else 0
theorem c_SpoilBad (b : Nat) (k : Int) (rs : List Pr) (q : Option Addr) (c : Nat) (i : Nat) (hi : i < rs.length) (a mask : Int) (h : spoilE rs[i].p a mask ≠ 0) (hs : rs[i].p.bs.length ≤ 1000000) :
    Ctr Try.prog 14 #[.pointer (some ⟨b, 0, none⟩), .int .i64 i, .int .i64 a, .int .u32 mask] noMem [bagB b (.slice q rs.length c) k, rowsA q c rs] (fun _ : Unit => .int .i64 (spoilE rs[i].p a mask)) (fun _ _ => True) (fun _ => [bagB b (.slice q rs.length c) k, rowsA q c rs]) := by
  refine Ctr.mk fun w F m C _ => x_bag_Bag_Spoil _ i a mask w _ ?_
  obtain ⟨ad, rfl⟩ := slice_some C.swap (rows_ne hi)
  refine (c_find b ad rs.length c k i (by omega) (by omega)).call C trivial fun _ m1 w4 hk hm _ C => ⟨_, _, rfl, hk.size, ?_⟩
  rw [if_neg (by decide), onSome_some]
  have hc := cells_elem row_len (C.swap.slCells.1 ad rfl).1 i hi
  refine ⟨rs[i].p.bad, hc 5 _ rfl, ?_⟩
  unfold spoilE at h
  have hE : ∀ e, spoilE rs[i].p a mask = e → ∃ i_1 m' L, Ending.returned (.int .i64 e) = .returned ((fun _ : Unit => Value.int .i64 (spoilE rs[i].p a mask)) i_1) ∧ (fun _ _ => True : Unit → Mem → Prop) i_1 m' ∧ Ctx F m w w4 L m' [bagB b (.slice (some ad) rs.length c) k, rowsA (some ad) c rs] := fun e he => ⟨(), m1, [], by rw [he], trivial, C⟩
  by_cases hb : rs[i].p.bad = true
  · rw [if_pos hb]; exact hE 4 (by simp [spoilE, hb])
  · rw [if_neg hb]
    by_cases hm0 : mask = 0
    · rw [if_pos (by simp [hm0])]; exact hE 1 (by simp [spoilE, hb, hm0])
    · rw [if_neg (by simp [hm0])]
      simp only [if_neg hb, if_neg hm0] at h
      have h3 : a < 0 ∨ (rs[i].p.bs.length : Int) - 4 < a := by
        by_cases h3 : a < 0 ∨ (rs[i].p.bs.length : Int) - 4 < a
        · exact h3
        · rw [if_neg h3] at h; exact absurd rfl h
      by_cases ha : a < 0
      · rw [if_neg (by simp [ha])]; exact hE 2 (by simp [spoilE, hb, hm0, ha])
      · rw [if_pos (by simp [ha]), onSome_some]
        refine ⟨_, _, _, hc 4 _ rfl, ?_⟩
        rw [if_pos (by rw [w_i64 (by omega) (by omega)]; simp; omega)]
        exact hE 2 (by unfold spoilE; rw [if_neg hb, if_neg hm0, if_pos h3])
theorem c_SpoilOk (b : Nat) (k : Int) (rs : List Pr) (q : Option Addr) (c : Nat) (i : Nat) (hi : i < rs.length) (a mask : Int) (h : spoilE rs[i].p a mask = 0) (hs : rs[i].p.bs.length ≤ 1000000) :
    Ctr Try.prog 14 #[.pointer (some ⟨b, 0, none⟩), .int .i64 i, .int .i64 a, .int .u32 mask] noMem [bagB b (.slice q rs.length c) k, rowsA q c rs, rs[i].own] (fun _ : Unit => .int .i64 0) (fun _ _ => True)
      (fun _ => [rowsA q c (rs.set i ⟨{ rs[i].p with bs := spoil rs[i].p.bs a.toNat mask 4, bad := true }, rs[i].q, rs[i].c⟩), bagB b (.slice q rs.length c) k, slB rs[i].q rs[i].c (spoil rs[i].p.bs a.toNat mask 4)]) := by
  refine Ctr.mk fun w F m C _ => x_bag_Bag_Spoil _ i a mask w _ ?_
  obtain ⟨ad, rfl⟩ := slice_some C.swap (rows_ne hi)
  refine (c_find b ad rs.length c k i (by omega) (by omega)).call C trivial fun _ m1 w4 hk hm _ C => ⟨_, _, rfl, hk.size, ?_⟩
  rw [if_neg (by decide), onSome_some]
  have hc := cells_elem row_len (C.swap.slCells.1 ad rfl).1 i hi
  refine ⟨rs[i].p.bad, hc 5 _ rfl, ?_⟩
  unfold spoilE at h
  have hb : ¬ rs[i].p.bad = true := fun e => by rw [if_pos e] at h; cases h
  rw [if_neg hb] at h ⊢
  have hm0 : ¬ mask = 0 := fun e => by rw [if_pos e] at h; cases h
  rw [if_neg hm0] at h
  have ha : ¬ (a < 0 ∨ (rs[i].p.bs.length : Int) - 4 < a) := fun e => by rw [if_pos e] at h; cases h
  rw [if_neg (by simp [hm0]), if_pos (by simp; omega), onSome_some]
  refine ⟨_, _, _, hc 4 _ rfl, ?_⟩
  rw [if_neg (by rw [w_i64 (by omega) (by omega)]; simp; omega)]
  have hq : ∃ ab, rs[i].q = some ab := slice_some C.third (fun e => by have := byV_len rs[i].p.bs; rw [e] at this; simp at this; omega)
  obtain ⟨ab, hab⟩ := hq
  refine ⟨fun n w' _ => ∃ j : Nat, n = j ∧ j ≤ 4 ∧ Ctx F m w w' [] m1 [slB rs[i].q rs[i].c (spoil rs[i].p.bs a.toNat mask j), bagB b (.slice (some ad) rs.length c) k, rowsA (some ad) c rs], fun n _ => (4 - n).toNat, ⟨0, rfl, by omega, C.third⟩, ?_⟩
  rintro n w14 L15 _ ⟨j, rfl, hj, D⟩
  have hlen := spoil_len rs[i].p.bs a.toNat mask j
  generalize hbs : spoil rs[i].p.bs a.toNat mask j = cur at D hlen
  have hDr := cells_elem row_len ((D.third).slCells.1 ad rfl).1 i hi
  by_cases hlt : j < 4
  · rw [if_pos (by simp; omega)]
    have e1 : IntKind.wrap .i64 (a + (j : Int)) = ((a.toNat + j : Nat) : Int) := by rw [w_i64 (by omega) (by omega)]; omega
    have e2 : IntKind.wrap .i64 (8 * (j : Int)) = ((8 * j : Nat) : Int) := by rw [w_i64 (by omega) (by omega)]; omega
    have e3 : IntKind.wrap .i64 ((j : Int) + 1) = ((j + 1 : Nat) : Int) := by rw [w_i64 (by omega) (by omega)]; omega
    rw [hab] at D
    have hbc := (D.slCells.1 ab rfl)
    have hget : (byV cur)[a.toNat + j]? = some (.int .u8 ((cur[a.toNat + j]'(by omega)).toNat : Int)) := byV_get _ _ (by omega)
    have hb1 := hbc.1 _ _ hget
    have hblk := World.block_lt_of_cell? w14 _ hb1
    rw [addr_block] at hblk
    have hr4 := hDr 4 _ rfl
    have hrb := World.block_lt_of_cell? w14 _ hr4
    have f1 : FactsW [((ad.add (i * 6)).add 4, [.slice rs[i].q rs[i].p.bs.length rs[i].c]), (ab.add (a.toNat + j), [.int .u8 ((cur[a.toNat + j]'(by omega)).toNat : Int)])] w14 [] :=
      factsMore (fun t v ht => by cases t with
        | zero => simp at ht; subst ht; rw [Addr.add_zero']; exact hr4
        | succ t => simp at ht) hrb (by simp) (factsOne (fun t v ht => by cases t with
        | zero => simp at ht; subst ht; rw [Addr.add_zero']; exact hb1
        | succ t => simp at ht) (by rw [addr_block]; exact hblk) (by simp))
    refine ⟨_, f1, ?_⟩
    rw [onSome_some]
    refine ⟨rs[i].q, rs[i].p.bs.length, rs[i].c, by simp, ?_⟩
    rw [e1, e2, hab]
    simp only [Int.toNat_natCast, Nat.mul_one]
    refine ⟨by omega, by omega, ?_⟩
    rw [onSome_some]
    refine ⟨_, List.mem_cons_of_mem _ List.mem_cons_self, by omega, by omega, by omega, ?_⟩
    rw [onSome_some]
    intro w25 h25
    have D2 := D.hid0 h25
    obtain ⟨s1, s2, s3, D3⟩ := slSet D2 (a.toNat + j) (by rw [byV_len]; omega) (.int .u8 ((spb (cur[a.toNat + j]'(by omega)) mask j).toNat : Int))
    rw [spb_val, e3]
    have hadd : ab.add (a.toNat + j) = ⟨ab.block, ab.off + (a.toNat + j), none⟩ := by
      obtain ⟨x1, x2, x3⟩ := ab; simp only at s1; subst s1; exact Addr.add_mid ..
    rw [hadd]
    refine ⟨rfl, s2, ⟨j + 1, rfl, by omega, ?_⟩, ?_⟩
    · rw [← byV_set] at D3
      have e4 : cur.set (a.toNat + j) (spb (cur[a.toNat + j]'(by omega)) mask j) = spoil rs[i].p.bs a.toNat mask (j + 1) := by
        simp only [spoil, hbs]
        congr 2
        rw [List.getD_eq_getElem?_getD, List.getElem?_eq_getElem (by omega)]; rfl
      rw [e4] at D3
      have e5 : cur.length = (spoil rs[i].p.bs a.toNat mask (j + 1)).length := by rw [spoil_len, hlen]
      show Ctx _ _ _ _ _ _ (slA (.slice (some ab) (spoil rs[i].p.bs a.toNat mask (j + 1)).length rs[i].c) (spoil rs[i].p.bs a.toNat mask (j + 1)).length _ 5 1 :: _)
      rw [← e5]
      exact D3
    · show (4 - ((j + 1 : Nat) : Int)).toNat + 1 ≤ (4 - (j : Int)).toNat
      omega
  · have hj4 : j = 4 := by omega
    subst hj4
    rw [if_neg (by simp), onSome_some]
    rw [← hbs] at D
    have D2 := D.third
    have hrl := rows_len rs
    obtain ⟨s1, s2, s3, D3⟩ := slSet D2 (i * 6 + 5) (by omega) (.bool true)
    have hadd : ad.add (i * 6) = ⟨ad.block, ad.off + i * 6, none⟩ := by
      obtain ⟨x1, x2, x3⟩ := ad; simp only at s1; subst s1; exact Addr.add_mid ..
    simp only [Int.toNat_natCast]
    rw [hadd]
    refine ⟨trivial, by simpa [Nat.add_assoc] using s2, ?_⟩
    rw [← rows_set rs i hi ⟨{ rs[i].p with bs := spoil rs[i].p.bs a.toNat mask 4, bad := true }, rs[i].q, rs[i].c⟩ 5 (by omega) (.bool true) (by simp [Pr.row, Pc.row, spoil_len])] at D3
    have e6 : rs.length = (rs.set i ⟨{ rs[i].p with bs := spoil rs[i].p.bs a.toNat mask 4, bad := true }, rs[i].q, rs[i].c⟩).length := by simp
    refine ⟨(), m1, [], trivial, trivial, ?_⟩
    show Ctx _ _ _ _ _ _ [slA (.slice (some ad) (rs.set i ⟨{ rs[i].p with bs := spoil rs[i].p.bs a.toNat mask 4, bad := true }, rs[i].q, rs[i].c⟩).length c) (rs.set i ⟨{ rs[i].p with bs := spoil rs[i].p.bs a.toNat mask 4, bad := true }, rs[i].q, rs[i].c⟩).length _ 39 6, _, _]
    rw [← e6]
    have e7 : ad.off + i * 6 + 5 = ad.off + (i * 6 + 5) := by omega
    show Ctx F m w (w14.setCells ad.block (ad.off + i * 6 + 5) [.bool true]) [] m1 _
    rw [e7]
    exact D3.perm (List.Perm.cons _ (List.Perm.swap _ _ _))
end Go.Proofs
