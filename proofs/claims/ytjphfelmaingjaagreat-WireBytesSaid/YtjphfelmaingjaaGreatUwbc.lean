import Derived.Test.YtjphfelmaingjaaGreatUwbb
import Derived.Test.YtjphfelmaingjaaGreatVwbb
import Derived.Test.YtjphfelmaingjaaGreatVwbc
set_option linter.unusedVariables false
set_option linter.unusedSimpArgs false
set_option maxHeartbeats 1000000
set_option maxRecDepth 10000
namespace Go.Proofs
open Go X RowKit
def wA (b : Nat) (v : Sl) (bs : List UInt8) : List Asn := [blk b [slV v bs.length] 79, slA (slV v bs.length) bs.length (byV bs) 5 1]
theorem u8_one (c : UInt8) : ∀ u ∈ [Value.int .u8 (c.toNat : Int)], oneC u = true := by intro u h; simp at h; subst h; rfl
theorem c_WB (b : Nat) (v : Sl) (bs : List UInt8) (c : UInt8) (hl : bs.length ≤ 140737488355200) : Ctr Tryz.prog 20 #[.pointer (some ⟨b, 0, none⟩), .int .u8 (c.toNat : Int)] noMem (wA b v bs) (fun _ : Sl => .tuple #[]) (fun _ _ => True) (fun v' => wA b v' (bs ++ [c])) := by
  refine Ctr.mk fun w F m C _ => x_WB _ _ w _ ⟨v.1, bs.length, v.2, C.blkCell (j := 0) rfl, ?_⟩
  have hcl : Cells _ ⟨w.heap.size, 0, none⟩ [Value.int .u8 (c.toNat : Int)] := (C.alloc [.int .u8 (c.toNat : Int)] 5).blkCells (o := 0) fun k v e => by simpa using e
  have D : Ctx F m w _ [] m [slA (slV v bs.length) bs.length (byV bs) 5 1, blk w.heap.size [.int .u8 (c.toNat : Int)] 5, blk b [slV v bs.length] 79] := Ctx.pm (C.alloc [.int .u8 (c.toNat : Int)] 5) [2, 0, 1] rfl
  obtain ⟨q2, c2, w7, hr, hkk, D2⟩ := D.app2 (P := Tryz.prog) (bytes := 1) (t := 41) (t2 := 41) 41 (by kernel_rfl) (.some ⟨w.heap.size, 0, none⟩ 1 1 [.int .u8 (c.toNat : Int)] rfl hcl) (by unfold maxLen; omega) (by omega) (u8_one c)
  have D3 : Ctx F m w w7 [] m [blk b [slV v bs.length] 79, slA (.slice q2 (bs.length + 1) c2) (bs.length + 1) (byV bs ++ [.int .u8 (c.toNat : Int)]) 5 1] := Ctx.pk D2 [2, 0] [1] rfl
  refine ⟨q2, bs.length + 1, c2, w7, hr, hkk.size, rfl, D3.there 0 1 (Nat.le_refl 1), ?_⟩
  refine Ctr.ret (m' := m) (L := []) (q2, c2) rfl trivial ?_
  have D4 := D3.store 0 [.slice q2 (bs.length + 1) c2] (Nat.le_refl 1)
  have e : byV (bs ++ [c]) = byV bs ++ [.int .u8 (c.toNat : Int)] := by simp [byV]
  rw [wA, e, List.length_append, List.length_singleton]
  exact D4
def putU (n : Nat) : List UInt8 := if n < 128 then [UInt8.ofNat n] else UInt8.ofNat (n % 128 + 128) :: putU (n / 128)
termination_by n
decreasing_by omega
theorem putU_lt {n : Nat} (h : n < 128) : putU n = [UInt8.ofNat n] := by rw [putU, if_pos h]
theorem putU_ge {n : Nat} (h : ¬ n < 128) : putU n = UInt8.ofNat (n % 128 + 128) :: putU (n / 128) := by rw [putU, if_neg h]
theorem putU_len : ∀ (j n : Nat), n < 128 ^ (j + 1) → (putU n).length ≤ j + 1
  | 0, n, h => by rw [putU_lt (by simpa using h)]; simp
  | j + 1, n, h => by
    by_cases h1 : n < 128
    · rw [putU_lt h1]; simp
    · rw [putU_ge h1, List.length_cons]
      have : n / 128 < 128 ^ (j + 1) := by rw [Nat.div_lt_iff_lt_mul (by decide), ← Nat.pow_succ]; exact h
      have := putU_len j (n / 128) this
      omega
theorem putU_10 {n : Nat} (h : n < 18446744073709551616) : (putU n).length ≤ 10 := putU_len 9 n (Nat.lt_of_lt_of_le h (by decide))
theorem u8_nat {n : Nat} (h : n < 256) : ((UInt8.ofNat n).toNat : Int) = n := by
  have : (UInt8.ofNat n).toNat = n % 256 := rfl
  rw [this, Nat.mod_eq_of_lt h]
theorem or128 (k : Nat) : IntKind.wrap .u8 (((BitVec.ofInt 8 (IntKind.u8.wrap (k : Int)) ||| BitVec.ofInt 8 128).toNat : Nat) : Int) = ((UInt8.ofNat (k % 128 + 128)).toNat : Int) := by
  have hw : IntKind.u8.wrap (k : Int) = ((k % 256 : Nat) : Int) := by simp [IntKind.wrap, IntKind.bits, IntKind.signed]
  rw [hw, u8_nat (by omega)]
  have h : ∀ r : Fin 256, (((BitVec.ofInt 8 ((r.val : Nat) : Int) ||| BitVec.ofInt 8 128).toNat : Nat) : Int) = ((r.val % 128 + 128 : Nat) : Int) := by decide +kernel
  have h2 := h ⟨k % 256, Nat.mod_lt _ (by decide)⟩
  rw [h2]
  have : k % 256 % 128 = k % 128 := Nat.mod_mod_of_dvd k (by decide)
  simp only [this]
  rw [w_u8 (by omega) (by omega)]
theorem fdiv128 (k : Nat) : (k : Int).fdiv 128 = ((k / 128 : Nat) : Int) := by rw [Int.fdiv_eq_ediv_of_nonneg _ (by decide)]; rfl
theorem c_WU (b : Nat) (v : Sl) (bs : List UInt8) (n : Nat) (hn : n < 18446744073709551616) (hl : bs.length ≤ 140737488355000) : Ctr Tryz.prog 60 #[.pointer (some ⟨b, 0, none⟩), .int .u64 (n : Int)] noMem (wA b v bs) (fun _ : Sl => .tuple #[]) (fun _ _ => True) (fun v' => wA b v' (bs ++ putU n)) := by
  refine Ctr.mk fun w F m C _ => x_WU _ _ w _ ?_
  have h10 := putU_10 hn
  refine ⟨fun n' w' _ => ∃ (k : Nat) (v' : Sl) (pre : List UInt8), n' = k ∧ k < 18446744073709551616 ∧ bs ++ putU n = pre ++ putU k ∧ Ctx F m w w' [] m (wA b v' pre), fun n' _ => n'.toNat, ⟨n, v, bs, rfl, hn, rfl, C⟩, ?_⟩
  clear C
  rintro n' w4 L5 _ ⟨k, v', pre, rfl, hk, he, C⟩
  have hpl : pre.length ≤ 140737488355200 := by have := congrArg List.length he; simp only [List.length_append] at this; omega
  have step : ∀ (c : UInt8), ∃ q2 c2 w7, (Builtin.append_ #[41, 41] 41 #[.slice v'.1 pre.length v'.2, .slice (some ⟨w4.heap.size, 0, none⟩) 1 1]).run Tryz.prog (w4.alloc (.cells #[.int .u8 (c.toNat : Int)] 5)) = .ok (.slice q2 (pre.length + 1) c2) w7 ∧ (w4.alloc (.cells #[.int .u8 (c.toNat : Int)] 5)).heap.size ≤ w7.heap.size ∧ World.there w7 b 0 1 ∧ Ctx F m w (w7.setCells b 0 [.slice q2 (pre.length + 1) c2]) [] m (wA b (q2, c2) (pre ++ [c])) := fun c => by
    have hcl : Cells _ ⟨w4.heap.size, 0, none⟩ [Value.int .u8 (c.toNat : Int)] := (C.alloc [.int .u8 (c.toNat : Int)] 5).blkCells (o := 0) fun k v e => by simpa using e
    have D : Ctx F m w _ [] m [slA (slV v' pre.length) pre.length (byV pre) 5 1, blk w4.heap.size [.int .u8 (c.toNat : Int)] 5, blk b [slV v' pre.length] 79] := Ctx.pm (C.alloc [.int .u8 (c.toNat : Int)] 5) [2, 0, 1] rfl
    obtain ⟨q2, c2, w7, hr, hkk, D2⟩ := D.app2 (P := Tryz.prog) (bytes := 1) (t := 41) (t2 := 41) 41 (by kernel_rfl) (.some ⟨w4.heap.size, 0, none⟩ 1 1 [.int .u8 (c.toNat : Int)] rfl hcl) (by unfold maxLen; omega) (by omega) (u8_one c)
    have D3 : Ctx F m w w7 [] m [blk b [slV v' pre.length] 79, slA (.slice q2 (pre.length + 1) c2) (pre.length + 1) (byV pre ++ [.int .u8 (c.toNat : Int)]) 5 1] := Ctx.pk D2 [2, 0] [1] rfl
    refine ⟨q2, c2, w7, hr, hkk.size, D3.there 0 1 (Nat.le_refl 1), ?_⟩
    have D4 := D3.store 0 [.slice q2 (pre.length + 1) c2] (Nat.le_refl 1)
    have e : byV (pre ++ [c]) = byV pre ++ [.int .u8 (c.toNat : Int)] := by simp [byV]
    rw [wA, e, List.length_append, List.length_singleton]
    exact D4
  by_cases h128 : k < 128
  · rw [if_neg (by simp only [decide_eq_true_eq]; omega)]
    refine ⟨v'.1, pre.length, v'.2, C.blkCell (j := 0) rfl, ?_⟩
    have hb : IntKind.wrap .u8 (k : Int) = ((UInt8.ofNat k).toNat : Int) := by rw [w_u8 (by omega) (by omega), u8_nat (by omega)]
    rw [hb]
    obtain ⟨q2, c2, w7, s1, s2, s3, s4⟩ := step (UInt8.ofNat k)
    refine ⟨q2, pre.length + 1, c2, w7, s1, s2, rfl, s3, Ctr.ret (m' := m) (L := []) (q2, c2) rfl trivial ?_⟩
    rw [he, putU_lt h128]; exact s4
  · rw [if_pos (by simp only [decide_eq_true_eq]; omega)]
    refine ⟨v'.1, pre.length, v'.2, C.blkCell (j := 0) rfl, ?_⟩
    rw [or128]
    obtain ⟨q2, c2, w7, s1, s2, s3, s4⟩ := step (UInt8.ofNat (k % 128 + 128))
    refine ⟨q2, pre.length + 1, c2, w7, s1, s2, rfl, s3, ?_⟩
    rw [fdiv128]
    refine ⟨⟨k / 128, (q2, c2), pre ++ [UInt8.ofNat (k % 128 + 128)], rfl, by omega, by rw [he, putU_ge h128]; simp, s4⟩, ?_⟩
    show (((k / 128 : Nat) : Int)).toNat + 1 ≤ ((k : Nat) : Int).toNat
    omega
theorem c_WText (b : Nat) (v : Sl) (bs : List UInt8) (s : ByteArray) (hs : s.size ≤ 140737488354900) (hl : bs.length + s.size ≤ 140737488354900) : Ctr Tryz.prog 120 #[.pointer (some ⟨b, 0, none⟩), .string s] noMem (wA b v bs) (fun _ : Sl => .tuple #[]) (fun _ _ => True) (fun v' => wA b v' (bs ++ (putU s.size ++ s.data.toList))) := by
  refine Ctr.mk fun w F m C _ => x_WText _ _ w _ ?_
  rw [w_u64 (by omega) (by omega)]
  have h10 := putU_10 (n := s.size) (by omega)
  refine (c_WU b v bs s.size (by omega) (by omega)).call (As := []) C trivial fun v' m1 w2 hk hm _ C => ⟨rfl, hk.size, ?_⟩
  refine ⟨v'.1, (bs ++ putU s.size).length, v'.2, C.blkCell (j := 0) rfl, ?_⟩
  have D : Ctx F m w w2 [] m1 [slA (slV v' (bs ++ putU s.size).length) (bs ++ putU s.size).length (byV (bs ++ putU s.size)) 5 1, blk b [slV v' (bs ++ putU s.size).length] 79] := Ctx.pm C [1, 0] rfl
  have hlen : (bs ++ putU s.size).length + s.size ≤ 140737488355000 := by rw [List.length_append]; omega
  generalize hp : bs ++ putU s.size = pre at D hlen
  obtain ⟨q2, c2, w7, hr, hkk, D2⟩ := D.app2 (P := Tryz.prog) (bytes := 1) (t := 41) (t2 := 9) 41 (by kernel_rfl) (.str s rfl) (by unfold maxLen; omega) (by omega) (byV_one _)
  have D3 : Ctx F m w w7 [] m1 [blk b [slV v' pre.length] 79, slA (.slice q2 (pre.length + s.size) c2) (pre.length + s.size) (byV pre ++ byV s.data.toList) 5 1] := Ctx.pm D2 [1, 0] rfl
  refine ⟨q2, pre.length + s.size, c2, w7, hr, hkk.size, rfl, D3.there 0 1 (Nat.le_refl 1), ?_⟩
  refine Ctr.ret (m' := m1) (L := []) (q2, c2) rfl trivial ?_
  have D4 := D3.store 0 [.slice q2 (pre.length + s.size) c2] (Nat.le_refl 1)
  have e2 : (pre ++ s.data.toList).length = pre.length + s.size := by rw [List.length_append]; rfl
  rw [wA, ← List.append_assoc, hp, byV_append, e2]
  exact D4
theorem c_WBytes (b : Nat) (v : Sl) (bs : List UInt8) (hl : bs.length ≤ 140737488355200) : Ctr Tryz.prog 22 #[.pointer (some ⟨b, 0, none⟩)] noMem (wA b v bs) (fun q : Sl => slV q bs.length) (fun _ _ => True) (fun q => slA (slV q bs.length) bs.length (byV bs) 5 1 :: wA b v bs) := by
  refine Ctr.mk fun w F m C _ => x_WBytes _ w _ ⟨v.1, bs.length, v.2, C.blkCell (j := 0) rfl, ?_⟩
  have D : Ctx F m w w [] m (slA (.slice none 0 0) 0 [] 5 1 :: wA b v bs) := C.slNil
  have D0 : Ctx F m w w [] m [slA (slV v bs.length) bs.length (byV bs) 5 1, blk b [slV v bs.length] 79] := Ctx.pm C [1, 0] rfl
  obtain ⟨q2, c2, w7, hr, hkk, D2⟩ := D.app2 (P := Tryz.prog) (bytes := 1) (t := 41) (t2 := 41) 41 (by kernel_rfl) D0.slSrc (by unfold maxLen; omega) (by omega) (byV_one _)
  rw [Nat.zero_add] at hr D2
  exact ⟨q2, bs.length, c2, w7, hr, hkk.size, Ctr.ret (m' := m) (L := []) (q2, c2) rfl trivial D2⟩
def u8 (n : Int) : UInt8 := UInt8.ofNat n.toNat
theorem u8I {n : Int} (h : 0 ≤ n ∧ n < 256) : ((u8 n).toNat : Int) = n := by rw [u8, u8_nat (by omega)]; omega
theorem natI {n : Int} (h : 0 ≤ n) : ((n.toNat : Nat) : Int) = n := by omega
def flagB (b : Bool) : UInt8 := if b then 1 else 0
theorem c_Wflag (b : Nat) (v : Sl) (bs : List UInt8) (f : Bool) (hl : bs.length ≤ 140737488355000) : Ctr Tryz.prog 66 #[.pointer (some ⟨b, 0, none⟩), .bool f] noMem (wA b v bs) (fun _ : Sl => .tuple #[]) (fun _ _ => True) (fun v' => wA b v' (bs ++ [flagB f])) := by
  refine Ctr.mk fun w F m C _ => x_Wflag _ _ w _ ?_
  cases f with
  | true =>
    rw [if_pos rfl]
    exact (c_WB b v bs 1 (by omega)).call (As := []) C trivial fun v' m1 w2 hk hm _ C => ⟨rfl, hk.size, Ctr.ret (L := _) v' rfl trivial C⟩
  | false =>
    rw [if_neg (by decide)]
    exact (c_WB b v bs 0 (by omega)).call (As := []) C trivial fun v' m1 w2 hk hm _ C => ⟨rfl, hk.size, Ctr.ret (L := _) v' rfl trivial C⟩
def putP (n l : Int) : List UInt8 := u8 n :: putU l.toNat
theorem c_PutProc (b : Nat) (v : Sl) (bs : List UInt8) (n l : Int) (hn : 0 ≤ n ∧ n < 256) (hl : 0 ≤ l ∧ l < 65536) (hb : bs.length ≤ 140737488354000) : Ctr Tryz.prog 68 #[.pointer (some ⟨b, 0, none⟩), PV n l] noMem (wA b v bs) (fun _ : Sl => .tuple #[]) (fun _ _ => True) (fun v' => wA b v' (bs ++ putP n l)) := by
  refine Ctr.mk fun w F m C _ => x_PutProc _ _ _ w _ fun w1 L2 h1 g1 => ?_
  have e1 : Value.int .u8 n = .int .u8 ((u8 n).toNat : Int) := by rw [u8I hn]
  have e2 : Value.int .u64 (IntKind.wrap .u64 l) = .int .u64 (l.toNat : Int) := by rw [w_u64 (by omega) (by omega), natI hl.1]
  rw [e1]
  refine (c_WB b v bs (u8 n) (by omega)).call (As := []) (C.hidL h1 g1) trivial fun v' m1 w2 hk hm _ C => ⟨rfl, hk, ?_⟩
  rw [e2]
  refine (c_WU b v' (bs ++ [u8 n]) l.toNat (by omega) (by rw [List.length_append]; simp; omega)).call (As := []) C trivial fun v2 m2 w3 hk hm2 _ C => ⟨rfl, hk, Ctr.ret (m' := m2) (L := L2) v2 rfl trivial ?_⟩
  rw [List.append_assoc] at C
  exact C
theorem c_Wround (b : Nat) (v : Sl) (bs : List UInt8) (x : Mg) (hi : MvIn x.er) (hb : bs.length ≤ 9000000) (h32 : x.nn < 4294967296) : Ctr Tryz.prog 65 #[.pointer (some ⟨b, 0, none⟩), .agg x.row.toArray] noMem (wA b v bs) (fun _ : Sl => .tuple #[]) (fun _ _ => True) (fun v' => wA b v' (bs ++ ([u8 x.gr] ++ putU x.nn.toNat ++ putU x.ba.toNat))) := by
  refine Ctr.mk fun w F m C _ => x_Wround _ _ _ _ _ _ _ _ _ _ _ _ _ _ _ _ _ _ _ _ _ _ _ _ _ _ _ _ _ _ _ _ _ _ _ _ _ _ _ _ _ _ w _ ⟨[], facts_nil _ _, fun w1 L2 h1 g1 => ?_⟩
  have hgr : 0 ≤ x.gr ∧ x.gr < 256 := hi.gr
  have hnn : 0 ≤ x.nn ∧ x.nn < 18446744073709551616 := hi.nn
  have hba : 0 ≤ x.ba ∧ x.ba < 18446744073709551616 := hi.ba
  have l1 := putU_10 (n := x.nn.toNat) (by omega)
  have e1 : Value.int .u8 x.gr = .int .u8 ((u8 x.gr).toNat : Int) := by rw [u8I hgr]
  have e2 : Value.int .u64 (IntKind.wrap .u64 x.nn) = .int .u64 (x.nn.toNat : Int) := by rw [w_u64 (by omega) (by omega), natI hnn.1]
  have e3 : Value.int .u64 x.ba = .int .u64 (x.ba.toNat : Int) := by rw [natI hba.1]
  rw [e1]
  refine (c_WB b v bs (u8 x.gr) (by omega)).call (As := []) (C.hidL h1 g1) trivial fun v' m1 w2 hk hm _ C => ⟨rfl, hk, [], facts_nil _ _, fun w3 L3 h3 g3 => ?_⟩
  rw [e2]
  refine (c_WU b v' (bs ++ [u8 x.gr]) x.nn.toNat (by omega) (by rw [List.length_append]; simp; omega)).call (As := []) (C.hidL h3 g3) trivial fun v2 m2 w3 hk hm2 _ C => ⟨rfl, hk, facts_nil _ _, [], facts_nil _ _, fun w4 L4 h4 g4 => ?_⟩
  rw [e3]
  refine (c_WU b v2 (bs ++ [u8 x.gr] ++ putU x.nn.toNat) x.ba.toNat (by omega) (by rw [List.length_append, List.length_append]; simp; omega)).call (As := []) (C.hidL h4 g4) trivial fun v3 m3 w5 hk hm3 _ C => ⟨rfl, hk, Ctr.ret (m' := m3) (L := L4) v3 rfl trivial ?_⟩
  have e : bs ++ ([u8 x.gr] ++ putU x.nn.toNat ++ putU x.ba.toNat) = bs ++ [u8 x.gr] ++ putU x.nn.toNat ++ putU x.ba.toNat := by simp
  rw [e]; exact C
theorem c_num (n : Int) : Gives Tryz.prog 12 #[.int .i64 n] (.int .i64 n) := fun w => x_num _ w _ ⟨rfl, below_refl _ _⟩
def wordL (k : Int) : List UInt8 :=
  if k = 0 then [65, 115, 107]
  else if k = 1 then [65, 110, 115, 119, 101, 114]
  else if k = 2 then [82, 101, 102, 117, 115, 101]
  else if k = 3 then [65, 112, 112, 101, 110, 100]
  else if k = 4 then [65, 99, 107, 101, 100]
  else if k = 5 then [80, 114, 101, 112, 97, 114, 101]
  else if k = 6 then [65, 99, 99, 101, 112, 116]
  else if k = 7 then [78, 97, 99, 107]
  else if k = 8 then [80, 114, 111, 109, 105, 115, 101]
  else if k = 9 then [80, 114, 111, 112, 111, 115, 101]
  else if k = 10 then [73, 110, 115, 116, 97, 108, 108]
  else if k = 11 then [74, 111, 105, 110]
  else if k = 12 then [76, 101, 97, 118, 101]
  else if k = 13 then [83, 108, 97, 121]
  else []
theorem wordL6 {k : Int} (h : k = 6) : wordL k = [65, 99, 99, 101, 112, 116] := by subst h; rfl
theorem wordLo {k : Int} (h : ¬ (0 ≤ k ∧ k ≤ 13)) : wordL k = [] := by rw [wordL, if_neg (by omega), if_neg (by omega), if_neg (by omega), if_neg (by omega), if_neg (by omega), if_neg (by omega), if_neg (by omega), if_neg (by omega), if_neg (by omega), if_neg (by omega), if_neg (by omega), if_neg (by omega), if_neg (by omega), if_neg (by omega)]
theorem c_Word (k : Int) (h0 : 0 ≤ k ∧ k < 256) : Gives Tryz.prog 18 #[.int .u8 k] (.string (toBA (wordL k))) := by
  intro w
  refine x_Word _ w _ ?_
  rw [w_i64 (n := k) (by omega) (by omega)]
  by_cases hk : k ≥ 14
  · rw [if_pos (by simpa using hk), wordLo (by omega)]
    exact fun w1 h1 => ⟨rfl, hid_below h1 (by simp) (Nat.le_refl _)⟩
  · rw [if_neg (by simpa using hk)]
    refine ⟨by omega, by omega, ?_⟩
    repeat' apply And.intro
    all_goals intro h w1 h1
    all_goals refine ⟨?_, hid_below h1 (by simp) (Nat.le_refl _)⟩
    all_goals (subst h; rfl)
end Go.Proofs
namespace Go.Proofs
open Go X RowKit
theorem c_Wmsg6 (b : Nat) (v : Sl) (bs : List UInt8) (x : Mg) (hk : x.kd = 6) (hi : MvIn x.er) (hb : bs.length ≤ 9000000) (h32 : x.nn < 4294967296) : Ctr Tryz.prog 21 #[.pointer (some ⟨b, 0, none⟩), .agg x.row.toArray] noMem (wA b v bs) (fun _ : Sl => .tuple #[]) (fun _ _ => True) (fun v' => wA b v' (bs ++ ([u8 x.gr] ++ putU x.nn.toNat ++ putU x.ba.toNat))) := by
  have cR := c_Wround b v bs x hi hb h32
  clear hi h32
  obtain ⟨kd, gr, co, nn, fr, cm, fl, ba, ac, id, pq, ps, rc, rv, vg, vn, vq, vm, pn, pl, has, mq, ms, eq, es, tq, ts⟩ := x
  replace hk : kd = 6 := hk
  subst hk
  refine Ctr.mk fun w F m C _ => x_Wmsg _ _ _ _ _ _ _ _ _ _ _ _ _ _ _ _ _ _ _ _ _ _ _ _ _ _ _ _ _ _ _ _ _ _ _ _ _ _ _ _ _ _ w _ ?_
  dsimp only
  repeat (first | rw [if_pos (by decide)] | rw [if_neg (by decide)])
  intro w1 L2 h1 g1
  exact cR.call (As := []) (C.hidL h1 g1) trivial fun v' m1 w2 hk hm _ C => ⟨rfl, hk, Ctr.ret (m' := m1) (L := L2) v' rfl trivial C⟩
def kMsg : Mg := ⟨6, 1, 0, 2, 0, 0, 0, 300, 0, I.zero, (none, 0), [], 0, ByteArray.mk #[], 0, 0, (none, 0), [], 0, 0, false, (none, 0), [], (none, 0), [], (none, 0), []⟩
theorem kM (m : Mem) : MgM m kMsg := ⟨.nil .., .nil .., .nil .., esNil m, esNil m, by decide, by decide, by decide, by decide, by decide⟩
theorem kI : I.zero.In := by constructor <;> exact ⟨by decide, by decide⟩
theorem kIn : MvIn kMsg.er := by
  constructor
  · exact kI
  all_goals first | (intro p hp; cases hp) | exact ⟨by decide, by decide⟩ | decide
theorem k_right : kMsg.er.right = true := by decide +kernel
def kB : List UInt8 := [6, 1, 2, 172, 2]
theorem kB_eq : [(6 : UInt8)] ++ ([u8 1] ++ putU 2 ++ putU 300) = kB := by
  have e1 : putU 2 = [2] := by rw [putU_lt (by decide)]; rfl
  have e2 : putU 300 = [172, 2] := by rw [putU_ge (by decide), putU_lt (by decide)]; rfl
  rw [e1, e2]; rfl
theorem c_BytesK : Ctr Tryz.prog 7 #[.agg kMsg.row.toArray] noMem [] (fun q : Sl => .tuple #[slV q kB.length, .int .i64 0]) (fun q m => MSrc m 1 (slV q kB.length) kB.length (byV kB)) (fun _ => []) := by
  refine Ctr.mk fun w F m C _ => x_Bytes _ _ _ _ _ _ _ _ _ _ _ _ _ _ _ _ _ _ _ _ _ _ _ _ _ _ _ _ _ _ _ _ _ _ _ _ _ _ _ _ _ w _ fun w1 L2 h1 g1 => ?_
  refine (c_mRight kMsg kIn).call (As := []) (C.hidL h1 g1) (kM m) fun _ m1 w4 hk hm _ C => ⟨_, rfl, hk, ?_⟩
  rw [k_right, if_neg (by decide)]
  have D : Ctx F m w (w4.alloc (.cells #[.slice none 0 0] 79)) L2 m1 (wA w4.heap.size (none, 0) []) := Ctx.pm (C.alloc [.slice none 0 0] 79).slNil [1, 0] rfl
  refine ⟨[], facts_nil _ _, fun w7 L8 h7 g7 => ?_⟩
  refine (c_WB w4.heap.size (none, 0) [] 6 (by decide)).call (As := []) (D.hidL h7 g7) trivial fun v2 m2 w10 hk hm2 _ C => ⟨rfl, hk, ?_⟩
  refine (c_Wmsg6 w4.heap.size v2 [6] kMsg rfl kIn (by decide) (by decide)).call (As := []) C trivial fun v3 m3 w12 hk hm3 _ C => ⟨rfl, hk, ?_⟩
  have e : [(6 : UInt8)] ++ ([u8 kMsg.gr] ++ putU kMsg.nn.toNat ++ putU kMsg.ba.toNat) = kB := kB_eq
  rw [e] at C
  refine (c_WBytes w4.heap.size v3 kB (by decide)).call (As := []) C trivial fun q m4 w14 hk hm4 _ C => ⟨_, _, _, rfl, hk, ?_⟩
  obtain ⟨m5, hm5, hs, C⟩ := C.slShare
  exact Ctr.ret (m' := m5) (L := []) q rfl hs (C.noL.sub fun F _ _ => ⟨[], rfl, by simp⟩)
theorem g_knows : Gives Tryz.prog 6 #[] (.bool true) := by
  intro w
  refine x_knows w _ ?_
  refine c_BytesK.call (As := []) (lawStart w) trivial fun q m1 w2 hk hm hq C => ⟨_, _, _, _, rfl, hk.size, ?_⟩
  refine C.gives (c_num 0) fun w8 k8 C => ⟨_, rfl, k8.size, ?_⟩
  rw [if_pos (by decide)]
  refine ⟨_, _, run_str (P := Tryz.prog) (e := 5) Tryz.underlying41 Tryz.underlying5 Tryz.underlying9 (C.src hq) ⟨_, _, rfl⟩, Nat.le_refl _, ?_⟩
  have ht : ((toBA kB).toList == (ByteArray.mk #[OfNat.ofNat 6, OfNat.ofNat 1, OfNat.ofNat 2, OfNat.ofNat 172, OfNat.ofNat 2]).toList) = true := beq_self_eq_true (toBA kB).toList
  rw [ht, if_pos (by decide)]
  refine C.gives (c_Word 6 (by decide)) fun w13 k13 C => ⟨_, rfl, k13.size, ?_, ctx_bel0 C⟩
  have hw : ((toBA (wordL 6)).toList == (ByteArray.mk #[OfNat.ofNat 65, OfNat.ofNat 99, OfNat.ofNat 99, OfNat.ofNat 101, OfNat.ofNat 112, OfNat.ofNat 116]).toList) = true := by
    rw [wordL6 rfl]; exact beq_self_eq_true (toBA [65, 99, 99, 101, 112, 116]).toList
  rw [hw]; rfl
end Go.Proofs
namespace Go.Proofs
open Go X RowKit
abbrev St := List UInt8 × Int
def getU (i v : Nat) : List UInt8 → Option (Nat × List UInt8)
  | [] => none
  | c :: r => if (i = 9 ∧ c.toNat > 1) ∨ (i > 0 ∧ c.toNat = 0) then none else if c.toNat < 128 then some (v + c.toNat % 128 * 2 ^ (7 * i), r) else getU (i + 1) (v + c.toNat % 128 * 2 ^ (7 * i)) r
def lenG (i : Nat) : List UInt8 → Nat
  | [] => 0
  | c :: r => if (i = 9 ∧ c.toNat > 1) ∨ (i > 0 ∧ c.toNat = 0) then 0 else if c.toNat < 128 then i + 1 else lenG (i + 1) r
def valG (i v : Nat) : List UInt8 → Nat
  | [] => v
  | c :: r => valG (i + 1) (v + c.toNat % 128 * 2 ^ (7 * i)) r
def uS (most : Nat) (s : St) : Nat × St := if s.2 ≠ 0 then (0, ([], s.2)) else match getU 0 0 s.1 with
  | none => (0, ([], 6))
  | some (v, r) => if v > most then (0, ([], 5)) else (v, (r, 0))
def bS (s : St) : UInt8 × St := if s.2 ≠ 0 then (0, ([], s.2)) else match s.1 with
  | [] => (0, ([], 6))
  | c :: r => (c, (r, 0))
def textS (most : Nat) (s : St) : List UInt8 × St := let r := uS most s; if r.2.2 ≠ 0 then ([], ([], r.2.2)) else if r.1 > r.2.1.length then ([], ([], 6)) else (r.2.1.take r.1, (r.2.1.drop r.1, 0))
def endS (s : St) : Int := if s.2 ≠ 0 then s.2 else if s.1 = [] then 0 else 6
def failS (s : St) (e : Int) : St := ([], if s.2 = 0 then e else s.2)
theorem lenG_ge : ∀ (l : List UInt8) (i : Nat), lenG i l = 0 ∨ (i + 1 ≤ lenG i l ∧ lenG i l ≤ i + l.length)
  | [], i => .inl rfl
  | c :: r, i => by
    rw [lenG]
    split
    · exact .inl rfl
    · split
      · exact .inr ⟨by omega, by simp⟩
      · rcases lenG_ge r (i + 1) with h | h
        · exact .inl h
        · exact .inr ⟨by omega, by simp only [List.length_cons]; omega⟩
theorem getU_eq : ∀ (l : List UInt8) (i v : Nat), getU i v l = if lenG i l = 0 then none else some (valG i v (l.take (lenG i l - i)), l.drop (lenG i l - i))
  | [], i, v => rfl
  | c :: r, i, v => by
    rw [getU, lenG]
    split
    · rfl
    · split
      · rw [if_neg (by omega), show i + 1 - i = 1 by omega]; rfl
      · rw [getU_eq r (i + 1) _]
        rcases lenG_ge r (i + 1) with h | h
        · rw [if_pos h, if_pos h]
        · rw [if_neg (by omega), if_neg (by omega), show lenG (i + 1) r - i = (lenG (i + 1) r - (i + 1)) + 1 by omega]; rfl
theorem lenG_10 : ∀ (l : List UInt8) (i : Nat), i ≤ 9 → lenG i l ≠ 0 → lenG i l ≤ 10 ∧ ∀ k (hk : k < l.length), i + k = 9 → i + k < lenG i l → l[k].toNat ≤ 1
  | [], i, _, h => absurd rfl h
  | c :: r, i, hi, h => by
    rw [lenG] at h ⊢
    split
    · rename_i hb; rw [if_pos hb] at h; exact absurd rfl h
    · rename_i hb
      rw [if_neg hb] at h
      split
      · refine ⟨by omega, fun k hk h9 hlt => ?_⟩
        have : k = 0 := by omega
        subst this
        simp only [not_or, not_and] at hb
        have := hb.1 (by omega)
        simp only [List.getElem_cons_zero]; omega
      · rename_i h128
        rw [if_neg h128] at h
        have hi9 : i ≠ 9 := fun h9 => by
          simp only [not_or, not_and] at hb
          have := hb.1 h9; omega
        obtain ⟨h1, h2⟩ := lenG_10 r (i + 1) (by omega) h
        refine ⟨h1, fun k hk h9 hlt => ?_⟩
        rcases k with _ | k
        · omega
        · simp only [List.getElem_cons_succ]
          exact h2 k (by simpa using hk) (by omega) (by omega)
def rdA (b : Nat) (q : Sl) (n : Nat) (e : Int) : Asn := blk b [slV q n, .int .i64 e, .bool true] 158
abbrev bsM (m : Mem) (q : Sl) (l : List UInt8) : Prop := MSrc m 1 (slV q l.length) l.length (byV l)
structure Rd where (q : Sl) (l : List UInt8) (e : Int)
def Rd.st (r : Rd) : St := (r.l, r.e)
def Rd.ok (m : Mem) (r : Rd) : Prop := bsM m r.q r.l ∧ (r.e ≠ 0 → r.l = []) ∧ r.l.length ≤ 100000000 ∧ r.l.length ≤ r.q.2
theorem Rd.ok.mono {m m' : Mem} {r : Rd} (h : r.ok m) (hm : m.le m') : r.ok m' := ⟨h.1.mono hm, h.2⟩
abbrev rA (b : Nat) (r : Rd) : Asn := rdA b r.q r.l.length r.e
theorem c_Rnone (b : Nat) (r : Rd) : Ctr Tryz.prog 82 #[.pointer (some ⟨b, 0, none⟩)] noMem [rA b r] (fun _ : Unit => .bool false) (fun _ _ => True) (fun _ => [rA b r]) :=
  Ctr.mk fun w F m C _ => x_Rnone _ w _ ⟨true, C.blkCell (j := 2) rfl, Ctr.ret () rfl trivial C⟩
theorem c_cfail (b : Nat) (r : Rd) (e : Int) : Ctr Tryz.prog 133 #[.pointer (some ⟨b, 0, none⟩), .int .i64 e] noMem [rA b r] (fun _ : Unit => .tuple #[]) (fun _ _ => True) (fun _ => [rA b ⟨(none, 0), [], (failS r.st e).2⟩]) := by
  refine Ctr.mk fun w F m C _ => x_cfail _ _ w _ ⟨r.e, C.blkCell (j := 1) rfl, ?_⟩
  by_cases h : r.e = 0
  · rw [if_pos (by simpa using h)]
    have C1 := C.store 1 [.int .i64 e] (by show 1 + 1 ≤ 3; omega)
    refine ⟨rfl, C.there 1 1 (by show 1 + 1 ≤ 3; omega), rfl, C1.there 0 1 (by show 0 + 1 ≤ 3; omega), Ctr.ret (m' := m) (L := []) () rfl trivial ?_⟩
    have C2 := C1.store 0 [.slice none 0 0] (by show 0 + 1 ≤ 3; omega)
    have : (failS r.st e).2 = e := by rw [failS, if_pos (show r.st.2 = 0 from h)]
    rw [this]; exact C2
  · rw [if_neg (by simpa using h)]
    refine ⟨rfl, C.there 0 1 (by show 0 + 1 ≤ 3; omega), Ctr.ret (m' := m) (L := []) () rfl trivial ?_⟩
    have C2 := C.store 0 [.slice none 0 0] (by show 0 + 1 ≤ 3; omega)
    have : (failS r.st e).2 = r.e := by rw [failS, if_neg (show ¬ r.st.2 = 0 from h)]; rfl
    rw [this]; exact C2
theorem okNil (m : Mem) (c : Nat) (e : Int) : Rd.ok m ⟨(none, c), [], e⟩ := ⟨.nil .., fun _ => rfl, by show (0 : Nat) ≤ _; omega, by show (0 : Nat) ≤ _; omega⟩
theorem byV_drop (l : List UInt8) (n : Nat) : byV (l.drop n) = (byV l).drop n := by simp [byV, List.map_drop]
theorem byV_take (l : List UInt8) (n : Nat) : byV (l.take n) = (byV l).take n := by simp [byV, List.map_take]
theorem msrc_row {m : Mem} {sz : Nat} {a : Addr} {n c : Nat} {cs : List Value} (h : MSrc m sz (.slice (some a) n c) n cs) : MCells m a cs := by
  cases h with
  | nil => intro j v hj; simp at hj
  | row _ _ _ _ h0 h1 h2 => exact h2
theorem bs_take {m : Mem} {q : Option Addr} {c : Nat} {l : List UInt8} (h : bsM m (q, c) l) (n c2 : Nat) (hn : n ≤ l.length) : bsM m (q, c2) (l.take n) := by
  have hl : (l.take n).length = n := by rw [List.length_take]; omega
  show MSrc m 1 (.slice q (l.take n).length c2) (l.take n).length _
  rw [hl, byV_take]
  refine MSrc.mk (by rw [List.length_take, byV_len]; omega) (fun a ha => ?_) (fun hq => ?_)
  · intro j u hj
    have hjl := (List.getElem?_eq_some_iff.1 hj).1
    rw [List.length_take] at hjl
    rw [List.getElem?_take_of_lt (by omega)] at hj
    subst ha
    exact msrc_row h j u hj
  · subst hq; have := h.none_len.1; omega
theorem bs_drop {m : Mem} {q : Option Addr} {c : Nat} {l : List UInt8} (h : bsM m (q, c) l) (n c2 : Nat) (hn : n ≤ l.length) (hc : l.length ≤ c) : bsM m (X.cutA q c n 1, c2) (l.drop n) := by
  have hl : (l.drop n).length = l.length - n := by rw [List.length_drop]
  show MSrc m 1 (.slice (X.cutA q c n 1) (l.drop n).length c2) (l.drop n).length _
  rw [hl, byV_drop]
  refine MSrc.mk (by rw [List.length_drop, byV_len]; omega) (fun a ha => ?_) (fun hq => ?_)
  · unfold X.cutA at ha
    by_cases hcn : c = n
    · have : (byV l).drop n = [] := List.drop_of_length_le (by rw [byV_len]; omega)
      rw [this]; intro j v hj; simp at hj
    · rw [if_neg hcn] at ha
      cases q with
      | none => cases ha
      | some a0 =>
        injection ha with ha
        subst ha
        intro j u hj
        rw [List.getElem?_drop] at hj
        rw [Addr.add_add, Nat.mul_one]
        exact msrc_row h _ u hj
  · unfold X.cutA at hq
    cases q with
    | none => have := h.none_len.1; omega
    | some a0 => split at hq <;> cases hq
theorem c_ctake (b : Nat) (r : Rd) (n : Nat) (hn : n < 18446744073709551616) : Ctr Tryz.prog 84 #[.pointer (some ⟨b, 0, none⟩), .int .u64 (n : Int)] (fun m => r.ok m) [rA b r] (fun p : Sl × List UInt8 × Rd => slV p.1 p.2.1.length) (fun p m => bsM m p.1 p.2.1 ∧ p.2.2.ok m ∧ (p.2.1, p.2.2.st) = if r.e ≠ 0 ∨ n > r.l.length then ([], failS r.st 6) else (r.l.take n, (r.l.drop n, r.e))) (fun p => [rA b p.2.2]) := by
  refine Ctr.mk fun w F m C hr => x_ctake _ _ w _ ⟨r.e, C.blkCell (j := 1) rfl, ?_⟩
  by_cases he : r.e = 0
  rotate_left
  · rw [if_neg (by simp [he])]
    refine (c_cfail b r 6).call (As := []) C trivial fun _ m1 w3 hk hm _ C => ⟨rfl, hk.size, ?_⟩
    exact Ctr.ret (m' := m1) (L := []) ((none, 0), [], ⟨(none, 0), [], (failS r.st 6).2⟩) rfl ⟨.nil .., okNil _ _ _, by rw [if_pos (.inl he)]; rfl⟩ C
  rw [if_pos (by simp [he])]
  refine ⟨r.q.1, r.l.length, r.q.2, C.blkCell (j := 0) rfl, ?_⟩
  have hl := hr.2.2.1
  rw [w_u64 (by omega) (by omega)]
  by_cases hb : n > r.l.length
  · rw [if_pos (by simp only [Bool.false_or, decide_eq_true_eq]; omega)]
    refine (c_cfail b r 6).call (As := []) C trivial fun _ m1 w3 hk hm _ C => ⟨rfl, hk.size, ?_⟩
    exact Ctr.ret (m' := m1) (L := []) ((none, 0), [], ⟨(none, 0), [], (failS r.st 6).2⟩) rfl ⟨.nil .., okNil _ _ _, by rw [if_pos (.inr hb)]; rfl⟩ C
  · rw [if_neg (by simp only [Bool.false_or, decide_eq_true_eq]; omega)]
    have hcap := hr.2.2.2
    refine ⟨r.q.1, r.l.length, r.q.2, C.blkCell (j := 0) rfl, by omega, by omega, r.q.1, r.l.length, r.q.2, C.blkCell (j := 0) rfl, by omega, by omega, rfl, C.there 0 1 (by show 0 + 1 ≤ 3; omega), ?_⟩
    rw [Int.toNat_natCast, cutA_zero]
    have C2 := C.store 0 [.slice (X.cutA r.q.1 r.q.2 n 1) (r.l.length - n) (r.q.2 - n)] (by show 0 + 1 ≤ 3; omega)
    have e1 : (r.l.take n).length = n := by rw [List.length_take]; omega
    have e2 : (r.l.drop n).length = r.l.length - n := by rw [List.length_drop]
    refine Ctr.ret (m' := m) (L := []) ((r.q.1, r.q.2), r.l.take n, ⟨(X.cutA r.q.1 r.q.2 n 1, r.q.2 - n), r.l.drop n, r.e⟩) (by rw [e1]) ⟨bs_take hr.1 n _ (by omega), ⟨bs_drop hr.1 n _ (by omega) hcap, fun h => absurd he h, by show (r.l.drop n).length ≤ _; omega, by show (r.l.drop n).length ≤ r.q.2 - n; omega⟩, by rw [if_neg (by omega)]; rfl⟩ ?_
    show Ctx F m w _ [] m [blk b [.slice (X.cutA r.q.1 r.q.2 n 1) (r.l.drop n).length (r.q.2 - n), .int .i64 r.e, .bool true] 158]
    rw [e2]; exact C2
theorem bs_cell {m : Mem} {q : Sl} {l : List UInt8} (h : bsM m q l) {j : Nat} (hj : j < l.length) : ∃ a, q.1 = some a ∧ m (a.add (j * 1)) = some (.int .u8 (l[j].toNat : Int)) := by
  obtain ⟨q1, q2⟩ := q
  cases q1 with
  | none => have := h.none_len.1; omega
  | some a => exact ⟨a, rfl, by rw [Nat.mul_one]; exact msrc_row h j _ (by simp [byV, hj])⟩
theorem drop_cons {α : Type} {l : List α} {j : Nat} (hj : j < l.length) : l.drop j = l[j] :: l.drop (j + 1) := List.drop_eq_getElem_cons hj
theorem c_clength (b : Nat) (r : Rd) : Ctr Tryz.prog 157 #[.pointer (some ⟨b, 0, none⟩)] (fun m => r.ok m) [rA b r] (fun _ : Unit => .int .i64 (lenG 0 r.l : Int)) (fun _ _ => True) (fun _ => [rA b r]) := by
  refine Ctr.mk fun w F m C hr => x_clength _ w _ ⟨r.q.1, r.l.length, r.q.2, C.blkCell (j := 0) rfl, ?_⟩
  refine ⟨fun n w' _ => ∃ j : Nat, n = j ∧ j ≤ r.l.length ∧ j ≤ 9 ∧ lenG 0 r.l = lenG j (r.l.drop j) ∧ Ctx F m w w' [] m [rA b r], fun n _ => ((r.l.length : Int) - n).toNat, ⟨0, rfl, by omega, by omega, rfl, C⟩, ?_⟩
  clear C
  rintro n w7 L8 _ ⟨j, rfl, hj, h9, hl, C⟩
  by_cases hjl : j < r.l.length
  rotate_left
  · rw [if_neg (by simpa using hjl)]
    have : r.l.drop j = [] := List.drop_of_length_le (by omega)
    rw [this] at hl
    exact Ctr.ret () (by rw [hl]; rfl) trivial C
  rw [if_pos (by simpa using hjl)]
  obtain ⟨a, ha, hc⟩ := bs_cell hr.1 hjl
  refine ⟨by omega, by omega, ?_⟩
  rw [ha, onSome_some]
  refine ⟨_, by rw [Int.toNat_natCast]; exact C.cell hc, ?_⟩
  rw [drop_cons hjl, lenG] at hl
  generalize r.l[j] = c at hl
  have e1 : IntKind.wrap .i64 ((j : Int) + 1) = ((j + 1 : Nat) : Int) := by rw [w_i64 (by omega) (by omega)]; omega
  by_cases hbad : (j = 9 ∧ c.toNat > 1) ∨ (j > 0 ∧ c.toNat = 0)
  · rw [if_pos (by simp only [Bool.or_eq_true, Bool.and_eq_true, beq_iff_eq, decide_eq_true_eq]; omega)]
    rw [if_pos hbad] at hl
    exact Ctr.ret () (by rw [hl]; rfl) trivial C
  rw [if_neg (by simp only [Bool.or_eq_true, Bool.and_eq_true, beq_iff_eq, decide_eq_true_eq]; omega)]
  rw [if_neg hbad] at hl
  by_cases h128 : c.toNat < 128
  · rw [if_pos (by simp only [decide_eq_true_eq]; omega), e1]
    rw [if_pos h128] at hl
    exact Ctr.ret () (by rw [hl]) trivial C
  · rw [if_neg (by simp only [decide_eq_true_eq]; omega), e1]
    rw [if_neg h128] at hl
    refine ⟨⟨j + 1, rfl, hjl, by omega, hl, C⟩, Nat.le_of_eq (by show ((r.l.length : Int) - ((j + 1 : Nat) : Int)).toNat + 1 = ((r.l.length : Int) - (j : Int)).toNat; omega)⟩
theorem c_first (q : Sl) (l : List UInt8) (hl : l.length ≤ 100000000) : Ctr Tryz.prog 83 #[slV q l.length] (fun m => bsM m q l) [] (fun _ : Unit => .int .u8 ((l.headD 0).toNat : Int)) (fun _ _ => True) (fun _ => []) := by
  refine Ctr.mk fun w F m C h => x_first _ _ _ w _ ?_
  refine ⟨fun n w' _ => n = 0 ∧ Ctx F m w w' [] m [], fun n _ => 0, ⟨rfl, C⟩, ?_⟩
  clear C
  rintro n w4 L5 _ ⟨rfl, C⟩
  cases l with
  | nil =>
    rw [if_neg (by simp)]
    exact Ctr.ret () rfl trivial C
  | cons c t =>
    rw [if_pos (by simp)]
    obtain ⟨a, ha, hc⟩ := bs_cell h (j := 0) (by simp)
    refine ⟨by omega, by simp only [List.length_cons]; omega, ?_⟩
    rw [ha, onSome_some]
    exact ⟨_, C.cell hc, Ctr.ret () rfl trivial C⟩
theorem c_RB (b : Nat) (r : Rd) : Ctr Tryz.prog 34 #[.pointer (some ⟨b, 0, none⟩)] (fun m => r.ok m) [rA b r] (fun _ : Rd => .int .u8 ((bS r.st).1.toNat : Int)) (fun r' m => r'.ok m ∧ r'.st = (bS r.st).2) (fun r' => [rA b r']) := by
  refine Ctr.mk fun w F m C hr => x_RB _ w _ ?_
  refine (c_Rnone b r).call (As := []) C trivial fun _ m1 w2 hk hm _ C => ⟨_, rfl, hk.size, ?_⟩
  rw [if_neg (by decide)]
  refine (c_ctake b r 1 (by decide)).call (As := []) C (hr.mono hm) fun p m2 w5 hk hm2 hp C => ⟨p.1.1, p.2.1.length, p.1.2, rfl, hk.size, ?_⟩
  obtain ⟨h1, h2, h3⟩ := hp
  have hle : p.2.1.length ≤ 1 := by
    have := congrArg (fun x => x.1.length) h3
    simp only at this
    rw [this]; split
    · simp
    · rw [List.length_take]; omega
  refine (c_first p.1 p.2.1 (by omega)).call (As := [_]) C h1 fun _ m3 w10 hk hm3 _ C => ⟨_, rfl, hk.size, ?_⟩
  obtain ⟨e1, e2⟩ := Prod.ext_iff.1 h3
  simp only at e1 e2
  have key : p.2.1.headD 0 = (bS r.st).1 ∧ p.2.2.st = (bS r.st).2 := by
    rw [e1, e2]
    by_cases he : r.e = 0
    · have he' : ¬ r.st.2 ≠ 0 := fun h => h he
      rw [bS, if_neg he']
      cases hrl : r.l with
      | nil =>
        have : r.st.1 = [] := hrl
        rw [this, if_pos (.inr (by simp)), failS, if_pos (show r.st.2 = 0 from he)]
        exact ⟨rfl, rfl⟩
      | cons c t =>
        have : r.st.1 = c :: t := hrl
        rw [this, if_neg (by simp [he])]
        exact ⟨rfl, by simp [he]⟩
    · have he' : r.st.2 ≠ 0 := he
      rw [bS, if_pos he', if_pos (.inl he), failS, if_neg he']
      exact ⟨rfl, rfl⟩
  exact Ctr.ret (m' := m3) (L := []) p.2.2 (by rw [key.1]) ⟨h2.mono hm3, key.2⟩ C
theorem and127 (k : Nat) (h : k < 256) : (BitVec.ofInt 8 (k : Int) &&& ~~~BitVec.ofInt 8 128).toNat = k % 128 := by
  have h2 : ∀ r : Fin 256, (BitVec.ofInt 8 ((r.val : Nat) : Int) &&& ~~~BitVec.ofInt 8 128).toNat = r.val % 128 := by decide +kernel
  exact h2 ⟨k, h⟩
theorem or64 (v c k : Nat) (hv : v < 2 ^ k) (ht : v + c * 2 ^ k < 18446744073709551616) : (BitVec.ofInt 64 (v : Int) ||| BitVec.ofInt 64 ((c * 2 ^ k : Nat) : Int)).toNat = v + c * 2 ^ k := by
  rw [BitVec.ofInt_natCast, BitVec.ofInt_natCast, BitVec.toNat_or, BitVec.toNat_ofNat, BitVec.toNat_ofNat, Nat.mod_eq_of_lt (by omega), Nat.mod_eq_of_lt (by omega), Nat.or_comm, Nat.mul_comm c, ← Nat.two_pow_add_eq_or_of_lt hv, Nat.add_comm]
theorem valG_app (i v : Nat) (a : List UInt8) (c : UInt8) : valG i v (a ++ [c]) = valG i v a + c.toNat % 128 * 2 ^ (7 * (i + a.length)) := by
  induction a generalizing i v with
  | nil => simp [valG]
  | cons x t ih => rw [List.cons_append, valG, valG, ih]; simp only [List.length_cons]; rw [show i + 1 + t.length = i + (t.length + 1) by omega]
theorem valG_lt (a : List UInt8) : valG 0 0 a < 2 ^ (7 * a.length) := by
  have key : ∀ n (a : List UInt8), a.length = n → valG 0 0 a < 2 ^ (7 * n) := by
    intro n
    induction n with
    | zero => intro a h; have : a = [] := List.eq_nil_of_length_eq_zero h; subst this; simp [valG]
    | succ n ih =>
      intro a h
      obtain ⟨t, c, rfl⟩ : ∃ t c, a = t ++ [c] := ⟨a.dropLast, a.getLast (by intro h0; rw [h0] at h; simp at h), (List.dropLast_concat_getLast _).symm⟩
      have hn : t.length = n := by simpa using h
      rw [valG_app, Nat.zero_add, hn]
      have h1 := ih t hn
      have h2 : c.toNat % 128 ≤ 127 := by omega
      have h3 : c.toNat % 128 * 2 ^ (7 * n) ≤ 127 * 2 ^ (7 * n) := Nat.mul_le_mul_right _ h2
      have h4 : 2 ^ (7 * (n + 1)) = 128 * 2 ^ (7 * n) := by rw [show 7 * (n + 1) = 7 + 7 * n by omega, Nat.pow_add]
      omega
  exact key _ a rfl
theorem val_fit (a : List UInt8) (c : UInt8) (h9 : a.length ≤ 9) (h1 : a.length = 9 → c.toNat ≤ 1) : valG 0 0 a + c.toNat % 128 * 2 ^ (7 * a.length) < 18446744073709551616 := by
  have hv := valG_lt a
  by_cases h : a.length = 9
  · have := h1 h
    rw [h] at hv ⊢
    have hc : c.toNat % 128 ≤ 1 := by omega
    have : c.toNat % 128 * 2 ^ (7 * 9) ≤ 1 * 2 ^ (7 * 9) := Nat.mul_le_mul_right _ hc
    have e : (2 : Nat) ^ (7 * 9) = 9223372036854775808 := by decide
    omega
  · have h2 : c.toNat % 128 ≤ 127 := by omega
    have h3 : c.toNat % 128 * 2 ^ (7 * a.length) ≤ 127 * 2 ^ (7 * a.length) := Nat.mul_le_mul_right _ h2
    have h4 : 2 ^ (7 * a.length) ≤ 2 ^ (7 * 8) := Nat.pow_le_pow_right (by decide) (by omega)
    have e : (2 : Nat) ^ (7 * 8) = 72057594037927936 := by decide
    omega
theorem shl_int (c j : Nat) (hc : c < 256) (hj : j ≤ 9) (hfit : c % 128 * 2 ^ (7 * j) < 18446744073709551616) : IntKind.u64.wrap (IntKind.u64.wrap (IntKind.u8.wrap (((c % 128 : Nat)) : Int)) * 2 ^ min (IntKind.i64.wrap (7 * (j : Int))).toNat 64) = ((c % 128 * 2 ^ (7 * j) : Nat) : Int) := by
  rw [w_u8 (n := ((c % 128 : Nat) : Int)) (by omega) (by omega), w_u64 (n := ((c % 128 : Nat) : Int)) (by omega) (by omega), w_i64 (by omega) (by omega)]
  have e : min (7 * (j : Int)).toNat 64 = 7 * j := by omega
  rw [e]
  have e2 : ((c % 128 : Nat) : Int) * 2 ^ (7 * j) = ((c % 128 * 2 ^ (7 * j) : Nat) : Int) := by rw [Int.natCast_mul, Int.natCast_pow]; rfl
  rw [e2, w_u64 (by omega) (by omega)]
theorem getU_some {l : List UInt8} (h : lenG 0 l ≠ 0) : getU 0 0 l = some (valG 0 0 (l.take (lenG 0 l)), l.drop (lenG 0 l)) := by
  rw [getU_eq, if_neg h, Nat.sub_zero]
theorem getU_none {l : List UInt8} (h : lenG 0 l = 0) : getU 0 0 l = none := by rw [getU_eq, if_pos h]
theorem c_RU (b : Nat) (r : Rd) (most : Nat) (hmost : most < 18446744073709551616) : Ctr Tryz.prog 134 #[.pointer (some ⟨b, 0, none⟩), .int .u64 (most : Int)] (fun m => r.ok m) [rA b r] (fun _ : Rd => .int .u64 ((uS most r.st).1 : Int)) (fun r' m => r'.ok m ∧ r'.st = (uS most r.st).2) (fun r' => [rA b r']) := by
  refine Ctr.mk fun w F m C hr => x_RU _ _ w _ ?_
  refine (c_Rnone b r).call (As := []) C trivial fun _ m1 w2 hk hm _ C => ⟨_, rfl, hk.size, ?_⟩
  rw [if_neg (by decide)]
  refine (c_clength b r).call (As := []) C (hr.mono hm) fun _ m2 w5 hk hm2 _ C => ⟨_, rfl, hk.size, ?_⟩
  replace hr := (hr.mono hm).mono hm2
  have hge := lenG_ge r.l 0
  by_cases h0 : lenG 0 r.l = 0
  · rw [if_pos (by simp [h0])]
    refine (c_cfail b r 6).call (As := []) C trivial fun _ m3 w23 hk hm3 _ C => ⟨rfl, hk.size, ?_⟩
    have key : (uS most r.st).1 = 0 ∧ (uS most r.st).2 = ([], (failS r.st 6).2) := by
      by_cases he : r.e = 0
      · have he' : ¬ r.st.2 ≠ 0 := fun h => h he
        have hg : getU 0 0 r.st.1 = none := getU_none h0
        rw [uS, if_neg he', hg, failS, if_pos (show r.st.2 = 0 from he)]; exact ⟨rfl, rfl⟩
      · have he' : r.st.2 ≠ 0 := he
        rw [uS, if_pos he', failS, if_neg he']; exact ⟨rfl, rfl⟩
    exact Ctr.ret (m' := m3) (L := []) ⟨(none, 0), [], (failS r.st 6).2⟩ (by rw [key.1]; rfl) ⟨okNil _ _ _, key.2.symm⟩ C
  rw [if_neg (by simp; omega)]
  have hlen : 1 ≤ lenG 0 r.l ∧ lenG 0 r.l ≤ r.l.length := by omega
  have he : r.e = 0 := by
    rcases Decidable.em (r.e = 0) with h | h
    · exact h
    · have := hr.2.1 h; rw [this] at hlen; simp [lenG] at hlen
  obtain ⟨h10, h9⟩ := lenG_10 r.l 0 (by omega) h0
  have hs := getU_some h0
  generalize hK : lenG 0 r.l = K at hlen h10 h9 hs h0
  rw [w_u64 (by omega) (by omega)]
  refine (c_ctake b r K (by omega)).call (As := []) C hr fun p m3 w8 hk hm3 hp C => ⟨p.1.1, p.2.1.length, p.1.2, rfl, hk.size, ?_⟩
  obtain ⟨h1, h2, h3⟩ := hp
  rw [if_neg (by omega)] at h3
  obtain ⟨e1, e2⟩ := Prod.ext_iff.1 h3
  simp only at e1 e2
  have hpl : p.2.1.length = K := by rw [e1, List.length_take]; omega
  have hb9 : ∀ (hk : 9 < p.2.1.length), p.2.1[9].toNat ≤ 1 := fun hk => by
    have hk' : 9 < r.l.length := by omega
    have := h9 9 hk' (by omega) (by omega)
    have e : p.2.1[9] = r.l[9] := by simp only [e1, List.getElem_take]
    rw [e]; exact this
  refine ⟨fun v n w' _ => ∃ j : Nat, n = j ∧ j ≤ p.2.1.length ∧ v = (valG 0 0 (p.2.1.take j) : Int) ∧ Ctx F m w w' [] m3 [rA b p.2.2], fun _ n _ => ((p.2.1.length : Int) - n).toNat, ⟨0, rfl, by omega, rfl, C⟩, ?_⟩
  clear C
  rintro v n w16 L17 _ ⟨j, rfl, hj, rfl, C⟩
  by_cases hjl : j < p.2.1.length
  · rw [if_pos (by simpa using hjl)]
    obtain ⟨a, ha, hc⟩ := bs_cell h1 hjl
    refine ⟨by omega, by omega, ?_⟩
    rw [ha, onSome_some]
    have h7 : IntKind.wrap .i64 (7 * (j : Int)) = 7 * (j : Int) := by rw [w_i64 (by omega) (by omega)]
    refine ⟨_, by rw [Int.toNat_natCast]; exact C.cell hc, by rw [h7]; omega, ?_⟩
    have e3 : IntKind.wrap .i64 ((j : Int) + 1) = ((j + 1 : Nat) : Int) := by rw [w_i64 (by omega) (by omega)]; omega
    have htl : (p.2.1.take j).length = j := by rw [List.length_take]; omega
    have hfit := val_fit (p.2.1.take j) p.2.1[j] (by omega) (fun h => by
      have : j = 9 := by omega
      subst this; exact hb9 hjl)
    rw [htl] at hfit
    have hvl := valG_lt (p.2.1.take j)
    rw [htl] at hvl
    have hstep : IntKind.wrap .u64 ((((BitVec.ofInt 64 ((valG 0 0 (p.2.1.take j) : Nat) : Int) ||| BitVec.ofInt 64 (IntKind.u64.wrap (IntKind.u64.wrap (IntKind.u8.wrap (((BitVec.ofInt 8 ((p.2.1[j].toNat : Nat) : Int) &&& ~~~BitVec.ofInt 8 128).toNat : Nat) : Int)) * 2 ^ min (IntKind.i64.wrap (7 * (j : Int))).toNat 64))).toNat) : Nat) : Int) = ((valG 0 0 (p.2.1.take (j + 1)) : Nat) : Int) := by
      have hc256 : p.2.1[j].toNat < 256 := p.2.1[j].toNat_lt
      rw [and127 _ hc256, shl_int _ _ hc256 (by omega) (by omega), or64 _ _ _ hvl hfit, List.take_succ_eq_append_getElem hjl, valG_app, htl, Nat.zero_add, w_u64 (by omega) (by omega)]
    refine ⟨⟨j + 1, e3, hjl, hstep, C⟩, ?_⟩
    rw [e3]; exact Nat.le_of_eq (by show ((p.2.1.length : Int) - ((j + 1 : Nat) : Int)).toNat + 1 = ((p.2.1.length : Int) - (j : Int)).toNat; omega)
  rw [if_neg (by simpa using hjl)]
  obtain rfl : j = p.2.1.length := by omega
  rw [List.take_length]
  have he' : ¬ r.st.2 ≠ 0 := fun h => h he
  have hu : uS most r.st = if valG 0 0 p.2.1 > most then (0, ([], 5)) else (valG 0 0 p.2.1, (r.l.drop K, 0)) := by
    have : getU 0 0 r.st.1 = some (valG 0 0 p.2.1, r.l.drop K) := by rw [e1]; exact hs
    rw [uS, if_neg he', this]
  by_cases hmx : valG 0 0 p.2.1 > most
  · rw [if_pos (by simp only [decide_eq_true_eq]; omega)]
    refine (c_cfail b p.2.2 5).call (As := []) C trivial fun _ m4 w19 hk hm4 _ C => ⟨rfl, hk.size, ?_⟩
    have hf : (failS p.2.2.st 5).2 = 5 := by rw [e2, failS]; simp [he]
    have C' := C
    rw [hf] at C'
    exact Ctr.ret (m' := m4) (L := []) ⟨(none, 0), [], 5⟩ (by rw [hu, if_pos hmx]; rfl) ⟨okNil _ _ _, by rw [hu, if_pos hmx]; rfl⟩ C'
  · rw [if_neg (by simp only [decide_eq_true_eq]; omega)]
    refine Ctr.ret (m' := m3) (L := []) p.2.2 (by rw [hu, if_neg hmx]) ⟨h2, by rw [hu, if_neg hmx, e2, he]⟩ C
theorem uS_lt (most : Nat) (s : St) (h : most < 18446744073709551616) : (uS most s).1 ≤ most := by
  unfold uS
  split
  · exact Nat.zero_le _
  · split
    · exact Nat.zero_le _
    · split
      · exact Nat.zero_le _
      · simp only; omega
theorem c_RText (b : Nat) (r : Rd) (most : Nat) (hmost : most < 9223372036854775808) : Ctr Tryz.prog 137 #[.pointer (some ⟨b, 0, none⟩), .int .i64 (most : Int)] (fun m => r.ok m) [rA b r] (fun _ : Rd => .string (toBA (textS most r.st).1)) (fun r' m => r'.ok m ∧ r'.st = (textS most r.st).2) (fun r' => [rA b r']) := by
  refine Ctr.mk fun w F m C hr => x_RText _ _ w _ ?_
  refine (c_Rnone b r).call (As := []) C trivial fun _ m1 w2 hk hm _ C => ⟨_, rfl, hk.size, ?_⟩
  rw [if_neg (by decide), if_neg (show ¬ ((0 : Int) > (most : Int)) by omega), w_u64 (by omega) (by omega)]
  refine (c_RU b r most (by omega)).call (As := []) C (hr.mono hm) fun r1 m2 w5 hk hm2 h1 C => ⟨_, rfl, hk.size, ?_⟩
  obtain ⟨hok, hst⟩ := h1
  have hlt := uS_lt most r.st (by omega)
  refine (c_ctake b r1 (uS most r.st).1 (by omega)).call (As := []) C hok fun p m3 w8 hk hm3 hp C => ⟨p.1.1, p.2.1.length, p.1.2, rfl, hk.size, ?_⟩
  obtain ⟨g1, g2, g3⟩ := hp
  refine ⟨_, _, run_str (P := Tryz.prog) (e := 5) Tryz.underlying41 Tryz.underlying5 Tryz.underlying9 (C.src g1) ⟨_, _, rfl⟩, Nat.le_refl _, ?_⟩
  have key : p.2.1 = (textS most r.st).1 ∧ p.2.2.st = (textS most r.st).2 := by
    have ht : textS most r.st = if r1.e ≠ 0 then ([], ([], r1.e)) else if (uS most r.st).1 > r1.l.length then ([], ([], 6)) else (r1.l.take (uS most r.st).1, (r1.l.drop (uS most r.st).1, 0)) := by
      rw [textS, ← hst]; rfl
    rw [ht]
    obtain ⟨e1, e2⟩ := Prod.ext_iff.1 g3
    simp only at e1 e2
    rw [e1, e2]
    by_cases he : r1.e ≠ 0
    · rw [if_pos (.inl he), if_pos he, failS, if_neg (show ¬ r1.st.2 = 0 from he)]; exact ⟨rfl, rfl⟩
    · rw [if_neg he]
      by_cases hb : (uS most r.st).1 > r1.l.length
      · rw [if_pos (.inr hb), if_pos hb, failS, if_pos (show r1.st.2 = 0 by show r1.e = 0; omega)]; exact ⟨rfl, rfl⟩
      · rw [if_neg (by omega), if_neg hb]
        exact ⟨rfl, by rw [show r1.e = 0 by omega]⟩
  exact Ctr.ret (m' := m3) (L := []) p.2.2 (by rw [← key.1]) ⟨g2, key.2⟩ C
theorem c_RErr (b : Nat) (r : Rd) : Ctr Tryz.prog 35 #[.pointer (some ⟨b, 0, none⟩)] noMem [rA b r] (fun _ : Unit => .int .i64 r.e) (fun _ _ => True) (fun _ => [rA b r]) := by
  refine Ctr.mk fun w F m C _ => x_RErr _ w _ ?_
  refine (c_Rnone b r).call (As := []) C trivial fun _ m1 w2 hk hm _ C => ⟨_, rfl, hk.size, ?_⟩
  rw [if_neg (by decide)]
  exact ⟨r.e, C.blkCell (j := 1) rfl, Ctr.ret () rfl trivial C⟩
theorem c_REnd (b : Nat) (r : Rd) : Ctr Tryz.prog 37 #[.pointer (some ⟨b, 0, none⟩)] noMem [rA b r] (fun _ : Unit => .int .i64 (endS r.st)) (fun _ _ => True) (fun _ => [rA b r]) := by
  refine Ctr.mk fun w F m C _ => x_REnd _ w _ ?_
  refine (c_RErr b r).call (As := []) C trivial fun _ m1 w2 hk hm _ C => ⟨_, rfl, hk.size, ?_⟩
  by_cases he : r.e = 0
  · rw [if_pos (by simp [he])]
    refine ⟨r.q.1, r.l.length, r.q.2, C.blkCell (j := 0) rfl, ?_⟩
    have hs : ¬ r.st.2 ≠ 0 := fun h => h he
    by_cases hl : r.l = []
    · rw [if_pos (by simp [hl])]
      exact Ctr.ret () (by rw [endS, if_neg hs, if_pos (show r.st.1 = [] from hl), he]) trivial C
    · rw [if_neg (by simp [hl])]
      exact Ctr.ret () (by rw [endS, if_neg hs, if_neg (show ¬ r.st.1 = [] from hl)]) trivial C
  · rw [if_neg (by simp [he])]
    exact Ctr.ret () (by rw [endS, if_pos (show r.st.2 ≠ 0 from he)]; rfl) trivial C
theorem c_RFail6 (b : Nat) (r : Rd) : Ctr Tryz.prog 140 #[.pointer (some ⟨b, 0, none⟩), .int .i64 6] noMem [rA b r] (fun _ : Unit => .tuple #[]) (fun _ _ => True) (fun _ => [rA b ⟨(none, 0), [], (failS r.st 6).2⟩]) := by
  refine Ctr.mk fun w F m C _ => x_RFail _ _ w _ ?_
  refine (c_Rnone b r).call (As := []) C trivial fun _ m1 w2 hk hm _ C => ⟨_, rfl, hk.size, ?_⟩
  rw [if_pos (by decide)]
  exact (c_cfail b r 6).call (As := []) C trivial fun _ m2 w5 hk hm2 _ C => ⟨rfl, hk.size, Ctr.ret (m' := m2) (L := []) () rfl trivial C⟩
theorem c_Read1 (q : Sl) (l : List UInt8) (hl : l.length ≤ 100000000) : Ctr Tryz.prog 33 #[slV q l.length] (fun m => bsM m q l) [] (fun p : Nat × Rd => .pointer (some ⟨p.1, 0, none⟩)) (fun p m => p.2.ok m ∧ p.2.st = (l, 0)) (fun p => [rA p.1 p.2]) := by
  refine Ctr.mk fun w F m C h => x_Read1 _ _ _ w _ ?_
  have D : Ctx F m w w [] m [slA (.slice none 0 0) 0 [] 5 1] := C.slNil
  obtain ⟨q2, c2, w7, hr, hkk, D2⟩ := D.app2 (P := Tryz.prog) (bytes := 1) (t := 41) (t2 := 41) 41 (by kernel_rfl) (C.src h) (by unfold maxLen; omega) (by omega) (byV_one _)
  rw [Nat.zero_add] at hr D2
  have hcap := D2.slCap.1
  obtain ⟨m2, hm2, hs, D3⟩ := D2.slShare
  refine ⟨q2, l.length, c2, w7, hr, hkk.size, ?_⟩
  exact Ctr.ret (m' := m2) (L := []) (w7.heap.size, ⟨(q2, c2), l, 0⟩) rfl ⟨⟨hs, fun h => absurd rfl h, hl, hcap⟩, rfl⟩ (D3.alloc [.slice q2 l.length c2, .int .i64 0, .bool true] 158)
def flagS (s : St) : Bool × St := let r := bS s; (r.1 == 1, if r.1.toNat > 1 then failS r.2 6 else r.2)
theorem c_rdwide (b : Nat) (r : Rd) : Ctr Tryz.prog 93 #[.agg #[.pointer (some ⟨b, 0, none⟩)]] (fun m => r.ok m) [rA b r] (fun _ : Rd => .int .u64 ((uS 18446744073709551615 r.st).1 : Int)) (fun r' m => r'.ok m ∧ r'.st = (uS 18446744073709551615 r.st).2) (fun r' => [rA b r']) := by
  refine Ctr.mk fun w F m C hr => x_rdwide _ w _ fun w1 L2 h1 g1 => ?_
  exact (c_RU b r 18446744073709551615 (by decide)).call (As := []) (C.hidL h1 g1) hr fun r1 m2 w4 hk hm h1 C => ⟨_, rfl, hk, Ctr.ret (m' := m2) (L := L2) r1 rfl h1 C⟩
theorem c_rdflag (b : Nat) (r : Rd) : Ctr Tryz.prog 92 #[.agg #[.pointer (some ⟨b, 0, none⟩)]] (fun m => r.ok m) [rA b r] (fun _ : Rd => .bool (flagS r.st).1) (fun r' m => r'.ok m ∧ r'.st = (flagS r.st).2) (fun r' => [rA b r']) := by
  refine Ctr.mk fun w F m C hr => x_rdflag _ w _ fun w1 L2 h1 g1 => ?_
  refine (c_RB b r).call (As := []) (C.hidL h1 g1) hr fun r1 m2 w4 hk hm h1 C => ⟨_, rfl, hk, ?_⟩
  have hb : ((((bS r.st).1.toNat : Nat) : Int) == 1) = ((bS r.st).1 == 1) := by
    rw [Bool.eq_iff_iff]; simp only [beq_iff_eq]
    constructor
    · intro h; apply UInt8.toNat_inj.1; show (bS r.st).1.toNat = 1; omega
    · intro h; rw [h]; rfl
  rw [hb]
  by_cases h : (bS r.st).1.toNat > 1
  · rw [if_pos (by simp only [decide_eq_true_eq]; omega)]
    refine (c_RFail6 b r1).call (As := []) C trivial fun _ m3 w7 hk hm3 _ C => ⟨rfl, hk, ?_⟩
    refine Ctr.ret (m' := m3) (L := L2) ⟨(none, 0), [], (failS r1.st 6).2⟩ rfl ⟨okNil _ _ _, ?_⟩ C
    rw [flagS]; simp only [if_pos h]; rw [← h1.2]; rfl
  · rw [if_neg (by simp only [decide_eq_true_eq]; omega)]
    refine Ctr.ret (m' := m2) (L := L2) r1 rfl ⟨h1.1, ?_⟩ C
    rw [flagS]; simp only [if_neg h]; exact h1.2
def procS (s : St) : (UInt8 × Nat) × St := let r := bS s; let t := uS 65535 r.2; ((r.1, t.1), t.2)
theorem c_GetProc (b : Nat) (r : Rd) : Ctr Tryz.prog 95 #[.pointer (some ⟨b, 0, none⟩)] (fun m => r.ok m) [rA b r] (fun _ : Rd => PV ((procS r.st).1.1.toNat : Int) ((procS r.st).1.2 : Int)) (fun r' m => r'.ok m ∧ r'.st = (procS r.st).2) (fun r' => [rA b r']) := by
  refine Ctr.mk fun w F m C hr => x_GetProc _ w _ fun w1 L2 h1 g1 => ?_
  refine (c_RB b r).call (As := []) (C.hidL h1 g1) hr fun r1 m2 w4 hk hm h1 C => ⟨_, rfl, hk, ?_⟩
  refine (c_RU b r1 65535 (by decide)).call (As := []) C h1.1 fun r2 m3 w7 hk hm3 h2 C => ⟨_, rfl, hk, fun w9 h9 => ?_⟩
  have hlt := uS_lt 65535 r1.st (by decide)
  rw [w_u16 (by omega) (by omega)]
  exact Ctr.ret (m' := m3) (L := []) r2 (by rw [procS, ← h1.2]) ⟨h2.1, by rw [procS, ← h1.2]; exact h2.2⟩ (C.hid0 h9)
end Go.Proofs
namespace Go.Proofs
open Go X RowKit
structure Rd1 where (q : Sl) (l : List UInt8) (e : Int)
def Rd1.st (r : Rd1) : St := if r.e ≠ 0 then ([], r.e) else (r.l, 0)
def Rd1.ok (m : Mem) (r : Rd1) : Prop := bsM m r.q r.l ∧ r.l.length ≤ 100000000 ∧ r.l.length ≤ r.q.2
theorem Rd1.ok.mono {m m' : Mem} {r : Rd1} (h : r.ok m) (hm : m.le m') : r.ok m' := ⟨h.1.mono hm, h.2⟩
abbrev r1A (b : Nat) (r : Rd1) : Asn := blk b [slV r.q r.l.length, .int .i64 r.e] 102
def Rd1.fail (r : Rd1) (e : Int) : Rd1 := { r with e := if r.e = 0 then e else r.e }
theorem st_fail (r : Rd1) (e : Int) (he : e ≠ 0) : (r.fail e).st = failS r.st e := by
  unfold Rd1.fail Rd1.st failS
  by_cases h : r.e = 0
  · simp [h, he]
  · simp [h]
theorem st0 {r : Rd1} (h : r.e = 0) : r.st = (r.l, 0) := by rw [Rd1.st, if_neg (by simp [h])]
theorem st1 {r : Rd1} (h : r.e ≠ 0) : r.st = ([], r.e) := by rw [Rd1.st, if_pos h]
theorem c_r1Fail (b : Nat) (r : Rd1) (e : Int) : Ctr Tryz.prog 96 #[.pointer (some ⟨b, 0, none⟩), .int .i64 e] noMem [r1A b r] (fun _ : Unit => .tuple #[]) (fun _ _ => True) (fun _ => [r1A b (r.fail e)]) := by
  refine Ctr.mk fun w F m C _ => x_r1Fail _ _ w _ ⟨r.e, C.blkCell (j := 1) rfl, ?_⟩
  by_cases h : r.e = 0
  · rw [if_pos (by simpa using h)]
    refine ⟨rfl, C.there 1 1 (by show 1 + 1 ≤ 2; omega), Ctr.ret (m' := m) (L := []) () rfl trivial ?_⟩
    have C1 := C.store 1 [.int .i64 e] (by show 1 + 1 ≤ 2; omega)
    have e1 : (r.fail e).e = e := by rw [Rd1.fail]; exact if_pos h
    show Ctx F m w _ [] m [blk b [slV r.q r.l.length, .int .i64 (r.fail e).e] 102]
    rw [e1]; exact C1
  · rw [if_neg (by simpa using h)]
    refine Ctr.ret (m' := m) (L := []) () rfl trivial ?_
    have e1 : (r.fail e).e = r.e := by rw [Rd1.fail]; exact if_neg h
    show Ctx F m w _ [] m [blk b [slV r.q r.l.length, .int .i64 (r.fail e).e] 102]
    rw [e1]; exact C
theorem fail_ok {m : Mem} {r : Rd1} (h : r.ok m) (e : Int) : (r.fail e).ok m := h
theorem shl_int1 (c j : Nat) (hc : c < 256) (hj : j ≤ 9) (hfit : c % 128 * 2 ^ (7 * j) < 18446744073709551616) : IntKind.u64.wrap (IntKind.u64.wrap ((c : Int).tmod 128) * 2 ^ min (IntKind.u64.wrap (IntKind.i64.wrap (7 * (j : Int)))).toNat 64) = ((c % 128 * 2 ^ (7 * j) : Nat) : Int) := by
  have h := shl_int c j hc hj hfit
  have e1 : (c : Int).tmod 128 = ((c % 128 : Nat) : Int) := rfl
  rw [e1, w_u64 (n := IntKind.i64.wrap (7 * (j : Int))) (by rw [w_i64 (by omega) (by omega)]; omega) (by rw [w_i64 (by omega) (by omega)]; omega)]
  rw [w_u8 (n := ((c % 128 : Nat) : Int)) (by omega) (by omega)] at h
  exact h
theorem c_r1U (b : Nat) (r : Rd1) (most : Nat) (hmost : most < 18446744073709551616) : Ctr Tryz.prog 98 #[.pointer (some ⟨b, 0, none⟩), .int .u64 (most : Int)] (fun m => r.ok m) [r1A b r] (fun _ : Rd1 => .int .u64 ((uS most r.st).1 : Int)) (fun r' m => r'.ok m ∧ r'.st = (uS most r.st).2) (fun r' => [r1A b r']) := by
  refine Ctr.mk fun w F m C hr => x_r1U _ _ w _ ?_
  refine ⟨fun v n w' _ => ∃ j : Nat, n = j ∧ j ≤ r.l.length ∧ j ≤ 9 ∧ (0 < j → r.e = 0) ∧ lenG 0 r.l = lenG j (r.l.drop j) ∧ v = (valG 0 0 (r.l.take j) : Int) ∧ Ctx F m w w' [] m [r1A b r], fun _ n _ => (10 - n).toNat, ⟨0, rfl, by omega, by omega, fun h => absurd h (by omega), rfl, rfl, C⟩, ?_⟩
  clear C
  rintro v n w5 L6 _ ⟨j, rfl, hj, h9, hj0, hl, rfl, C⟩
  have fail : ∀ (er : Int), er ≠ 0 → (uS most r.st).1 = 0 → (uS most r.st).2 = failS r.st er → X.CallX Tryz.prog 96 #[.pointer (some ⟨b, 0, none⟩), .int .i64 er] w5 fun e27 w28 => e27 = .returned (.tuple #[]) ∧ w5.heap.size ≤ w28.heap.size ∧ ∃ (i : Rd1) (m' : Mem) (L : List Nat), Ending.returned (Value.int .u64 0) = .returned (.int .u64 ((uS most r.st).1 : Int)) ∧ (i.ok m' ∧ i.st = (uS most r.st).2) ∧ Ctx F m w w28 L m' [r1A b i] := fun er h0 h1 h2 =>
    (c_r1Fail b r er).call (As := []) C trivial fun _ m2 w28 hk hm _ C => ⟨rfl, hk.size, r.fail er, m2, [], by rw [h1]; rfl, ⟨fail_ok (hr.mono hm) er, by rw [st_fail r er h0, h2]⟩, C⟩
  rw [if_pos (by simp only [decide_eq_true_eq]; omega)]
  refine ⟨r.e, C.blkCell (j := 1) rfl, ?_⟩
  by_cases he : r.e = 0
  rotate_left
  · rw [if_neg (by simp [he])]
    have hs := st1 he
    have h1 : uS most r.st = (0, ([], r.e)) := by rw [hs, uS, if_pos he]
    exact fail 6 (by decide) (by rw [h1]) (by rw [h1, hs, failS, if_neg he])
  rw [if_pos (by simp [he])]
  have hs := st0 he
  have hn : lenG 0 r.l = 0 → (uS most r.st).1 = 0 ∧ (uS most r.st).2 = failS r.st 6 := fun h => by
    have : uS most r.st = (0, ([], 6)) := by rw [hs, uS, if_neg (by simp)]; rw [getU_none h]
    rw [this, hs]; exact ⟨rfl, rfl⟩
  refine ⟨r.q.1, r.l.length, r.q.2, C.blkCell (j := 0) rfl, ?_⟩
  by_cases hjl : j < r.l.length
  rotate_left
  · rw [if_pos (by simp only [Bool.false_or, decide_eq_true_eq]; omega)]
    have : r.l.drop j = [] := List.drop_of_length_le (by omega)
    rw [this] at hl
    exact fail 6 (by decide) (hn hl).1 (hn hl).2
  rw [if_neg (by simp only [Bool.false_or, decide_eq_true_eq]; omega)]
  refine ⟨r.q.1, r.l.length, r.q.2, C.blkCell (j := 0) rfl, by omega, by omega, ?_⟩
  obtain ⟨a, ha, hc⟩ := bs_cell hr.1 hjl
  rw [ha, onSome_some]
  refine ⟨_, by rw [Int.toNat_natCast]; exact C.cell hc, ?_⟩
  rw [drop_cons hjl, lenG] at hl
  have hval : valG 0 0 (r.l.take (j + 1)) = valG 0 0 (r.l.take j) + r.l[j].toNat % 128 * 2 ^ (7 * j) := by
    have htl : (r.l.take j).length = j := by rw [List.length_take]; omega
    rw [List.take_succ_eq_append_getElem hjl, valG_app, htl, Nat.zero_add]
  have hvl := valG_lt (r.l.take j)
  rw [show (r.l.take j).length = j by rw [List.length_take]; omega] at hvl
  generalize r.l[j] = c at hl hval
  by_cases hbad : (j = 9 ∧ c.toNat > 1) ∨ (j > 0 ∧ c.toNat = 0)
  · rw [if_pos (by simp only [Bool.or_eq_true, Bool.and_eq_true, beq_iff_eq, decide_eq_true_eq]; omega)]
    rw [if_pos hbad] at hl
    exact fail 6 (by decide) (hn hl).1 (hn hl).2
  rw [if_neg (by simp only [Bool.or_eq_true, Bool.and_eq_true, beq_iff_eq, decide_eq_true_eq]; omega)]
  rw [if_neg hbad] at hl
  have hc256 : c.toNat < 256 := c.toNat_lt
  have hfit : valG 0 0 (r.l.take j) + c.toNat % 128 * 2 ^ (7 * j) < 18446744073709551616 := by
    have := val_fit (r.l.take j) c (by rw [List.length_take]; omega) (fun h => by rw [List.length_take] at h; omega)
    rwa [show (r.l.take j).length = j by rw [List.length_take]; omega] at this
  have hstep : IntKind.wrap .u64 ((((BitVec.ofInt 64 ((valG 0 0 (r.l.take j) : Nat) : Int) ||| BitVec.ofInt 64 (IntKind.u64.wrap (IntKind.u64.wrap (((c.toNat : Nat) : Int).tmod 128) * 2 ^ min (IntKind.u64.wrap (IntKind.i64.wrap (7 * (j : Int)))).toNat 64))).toNat) : Nat) : Int) = ((valG 0 0 (r.l.take (j + 1)) : Nat) : Int) := by
    rw [shl_int1 _ _ hc256 (by omega) (by omega), or64 _ _ _ hvl hfit, hval, w_u64 (by omega) (by omega)]
  have e1 : IntKind.wrap .i64 ((j : Int) + 1) = ((j + 1 : Nat) : Int) := by rw [w_i64 (by omega) (by omega)]; omega
  refine ⟨by rw [w_i64 (n := 7 * (j : Int)) (by omega) (by omega), w_u64 (by omega) (by omega)]; omega, ?_⟩
  rw [hstep, e1]
  by_cases h128 : c.toNat < 128
  rotate_left
  · rw [if_neg (by simp only [decide_eq_true_eq]; omega)]
    rw [if_neg h128] at hl
    refine ⟨⟨j + 1, rfl, hjl, by omega, fun _ => he, hl, rfl, C⟩, Nat.le_of_eq (by show (10 - ((j + 1 : Nat) : Int)).toNat + 1 = (10 - (j : Int)).toNat; omega)⟩
  rw [if_pos (by simp only [decide_eq_true_eq]; omega)]
  rw [if_pos h128] at hl
  have hu : uS most r.st = if valG 0 0 (r.l.take (j + 1)) > most then (0, ([], 5)) else (valG 0 0 (r.l.take (j + 1)), (r.l.drop (j + 1), 0)) := by
    have hg := getU_some (l := r.l) (by omega)
    rw [hl] at hg
    rw [hs, uS, if_neg (by simp), hg]
  by_cases hmx : valG 0 0 (r.l.take (j + 1)) > most
  · rw [if_pos (by simp only [decide_eq_true_eq]; omega)]
    exact fail 5 (by decide) (by rw [hu, if_pos hmx]) (by rw [hu, if_pos hmx, hs]; rfl)
  · rw [if_neg (by simp only [decide_eq_true_eq]; omega)]
    have hcap := hr.2.2
    refine ⟨r.q.1, r.l.length, r.q.2, C.blkCell (j := 0) rfl, by omega, by omega, rfl, C.there 0 1 (by show 0 + 1 ≤ 2; omega), ?_⟩
    rw [Int.toNat_natCast]
    have C2 := C.store 0 [.slice (X.cutA r.q.1 r.q.2 (j + 1) 1) (r.l.length - (j + 1)) (r.q.2 - (j + 1))] (by show 0 + 1 ≤ 2; omega)
    have e2 : (r.l.drop (j + 1)).length = r.l.length - (j + 1) := by rw [List.length_drop]
    refine Ctr.ret (m' := m) (L := []) ⟨(X.cutA r.q.1 r.q.2 (j + 1) 1, r.q.2 - (j + 1)), r.l.drop (j + 1), r.e⟩ (by rw [hu, if_neg hmx]) ⟨⟨bs_drop hr.1 _ _ (by omega) hcap, by have := hr.2.1; show (r.l.drop (j + 1)).length ≤ _; omega, by show (r.l.drop (j + 1)).length ≤ r.q.2 - (j + 1); omega⟩, by rw [hu, if_neg hmx]; exact st0 (r := ⟨_, _, _⟩) he⟩ ?_
    show Ctx F m w _ [] m [blk b [.slice (X.cutA r.q.1 r.q.2 (j + 1) 1) (r.l.drop (j + 1)).length (r.q.2 - (j + 1)), .int .i64 r.e] 102]
    rw [e2]; exact C2
theorem c_r1B (b : Nat) (r : Rd1) : Ctr Tryz.prog 38 #[.pointer (some ⟨b, 0, none⟩)] (fun m => r.ok m) [r1A b r] (fun _ : Rd1 => .int .u8 ((bS r.st).1.toNat : Int)) (fun r' m => r'.ok m ∧ r'.st = (bS r.st).2) (fun r' => [r1A b r']) := by
  refine Ctr.mk fun w F m C hr => x_r1B _ w _ ⟨r.e, C.blkCell (j := 1) rfl, ?_⟩
  by_cases he : r.e = 0
  rotate_left
  · rw [if_neg (by simp [he])]
    have hs := st1 he
    refine (c_r1Fail b r 6).call (As := []) C trivial fun _ m2 w28 hk hm _ C => ⟨rfl, hk.size, ?_⟩
    have hb : bS r.st = (0, ([], r.e)) := by rw [hs, bS, if_pos he]
    exact Ctr.ret (m' := m2) (L := []) (r.fail 6) (by rw [hb]; rfl) ⟨fail_ok (hr.mono hm) 6, by rw [st_fail r 6 (by decide), hb, hs, failS, if_neg he]⟩ C
  rw [if_pos (by simp [he])]
  have hs := st0 he
  refine ⟨r.q.1, r.l.length, r.q.2, C.blkCell (j := 0) rfl, ?_⟩
  have hcap := hr.2.2
  have h1 := hr.1
  cases hl : r.l with
  | nil =>
    rw [if_pos (by simp)]
    rw [hl] at hs
    have hb : bS r.st = (0, ([], 6)) := by rw [hs]; rfl
    have C' : Ctx F m w w [] m [r1A b r] := C
    refine (c_r1Fail b r 6).call (As := []) C' trivial fun _ m2 w28 hk hm _ C => ⟨rfl, hk.size, ?_⟩
    exact Ctr.ret (m' := m2) (L := []) (r.fail 6) (by rw [hb]; rfl) ⟨fail_ok (hr.mono hm) 6, by rw [st_fail r 6 (by decide), hb, hs]; rfl⟩ C
  | cons c t =>
    rw [if_neg (by simp; omega)]
    have hlen : r.l.length = t.length + 1 := by rw [hl]; rfl
    obtain ⟨a, ha, hc⟩ := bs_cell h1 (j := 0) (by omega)
    have e0 : r.l[0] = c := by simp [hl]
    rw [e0] at hc
    refine ⟨r.q.1, r.l.length, r.q.2, C.blkCell (j := 0) rfl, by omega, by omega, ?_⟩
    rw [ha, onSome_some]
    refine ⟨_, C.cell hc, some a, r.l.length, r.q.2, by rw [← ha]; exact C.blkCell (j := 0) rfl, by omega, by omega, rfl, C.there 0 1 (by show 0 + 1 ≤ 2; omega), ?_⟩
    have C2 := C.store 0 [.slice (X.cutA r.q.1 r.q.2 1 1) (r.l.length - 1) (r.q.2 - 1)] (by show 0 + 1 ≤ 2; omega)
    rw [hl] at hs
    have hb : bS r.st = (c, (t, 0)) := by rw [hs]; rfl
    have ht : r.l.drop 1 = t := by rw [hl]; rfl
    have hd := bs_drop h1 1 (r.q.2 - 1) (by omega) hcap
    rw [ht] at hd
    refine Ctr.ret (m' := m) (L := []) ⟨(X.cutA r.q.1 r.q.2 1 1, r.q.2 - 1), t, r.e⟩ (by rw [hb]) ⟨⟨hd, by have := hr.2.1; show t.length ≤ _; omega, by show t.length ≤ r.q.2 - 1; omega⟩, by rw [hb]; exact st0 (r := ⟨_, _, _⟩) he⟩ ?_
    show Ctx F m w _ [] m [blk b [.slice (X.cutA r.q.1 r.q.2 1 1) t.length (r.q.2 - 1), .int .i64 r.e] 102]
    rw [ha] at C2 ⊢
    have e2 : r.l.length - 1 = t.length := by omega
    rw [← e2]; exact C2
theorem c_r1RText (b : Nat) (r : Rd1) (most : Nat) (hmost : most < 9223372036854775808) : Ctr Tryz.prog 143 #[.pointer (some ⟨b, 0, none⟩), .int .i64 (most : Int)] (fun m => r.ok m) [r1A b r] (fun _ : Rd1 => .string (toBA (textS most r.st).1)) (fun r' m => r'.ok m ∧ r'.st = (textS most r.st).2) (fun r' => [r1A b r']) := by
  refine Ctr.mk fun w F m C hr => x_r1RText _ _ w _ ?_
  rw [if_neg (show ¬ ((0 : Int) > (most : Int)) by omega), w_u64 (by omega) (by omega)]
  refine (c_r1U b r most (by omega)).call (As := []) C hr fun r1 m2 w5 hk hm2 h1 C => ⟨_, rfl, hk.size, ?_⟩
  obtain ⟨hok, hst⟩ := h1
  have hlt := uS_lt most r.st (by omega)
  have ht : textS most r.st = if r1.st.2 ≠ 0 then ([], ([], r1.st.2)) else if (uS most r.st).1 > r1.st.1.length then ([], ([], 6)) else (r1.st.1.take (uS most r.st).1, (r1.st.1.drop (uS most r.st).1, 0)) := by
    rw [textS, ← hst]
  refine ⟨r1.e, C.blkCell (j := 1) rfl, ?_⟩
  by_cases he : r1.e = 0
  rotate_left
  · rw [if_neg (by simp [he])]
    have hs := st1 he
    refine (c_r1Fail b r1 6).call (As := []) C trivial fun _ m2 w28 hk hm _ C => ⟨rfl, hk.size, ?_⟩
    have hb : textS most r.st = ([], ([], r1.e)) := by rw [ht, hs, if_pos he]
    exact Ctr.ret (m' := m2) (L := []) (r1.fail 6) (by rw [hb]; rfl) ⟨fail_ok (hok.mono hm) 6, by rw [st_fail r1 6 (by decide), hb, hs, failS, if_neg he]⟩ C
  rw [if_pos (by simp [he])]
  have hs := st0 he
  have hcap := hok.2.2
  have hlen := hok.2.1
  refine ⟨r1.q.1, r1.l.length, r1.q.2, C.blkCell (j := 0) rfl, ?_⟩
  rw [w_u64 (n := ((r1.l.length : Nat) : Int)) (by omega) (by omega)]
  generalize (uS most r.st).1 = K at ht hlt
  by_cases hb : K > r1.l.length
  · rw [if_pos (by simp only [Bool.false_or, decide_eq_true_eq]; omega)]
    refine (c_r1Fail b r1 6).call (As := []) C trivial fun _ m2 w28 hk hm _ C => ⟨rfl, hk.size, ?_⟩
    have hb : textS most r.st = ([], ([], 6)) := by rw [ht, hs, if_neg (by simp), if_pos hb]
    exact Ctr.ret (m' := m2) (L := []) (r1.fail 6) (by rw [hb]; rfl) ⟨fail_ok (hok.mono hm) 6, by rw [st_fail r1 6 (by decide), hb, hs]; rfl⟩ C
  · rw [if_neg (by simp only [Bool.false_or, decide_eq_true_eq]; omega)]
    have hb' : textS most r.st = (r1.l.take K, (r1.l.drop K, 0)) := by rw [ht, hs, if_neg (by simp), if_neg hb]
    have e1 : (r1.l.take K).length = K := by rw [List.length_take]; omega
    have e2 : (r1.l.drop K).length = r1.l.length - K := by rw [List.length_drop]
    have hbt := bs_take hok.1 K r1.q.2 (by omega)
    refine ⟨r1.q.1, r1.l.length, r1.q.2, C.blkCell (j := 0) rfl, by omega, by omega, ?_⟩
    rw [Int.toNat_natCast, cutA_zero]
    have hrs := run_str (P := Tryz.prog) (e := 5) Tryz.underlying41 Tryz.underlying5 Tryz.underlying9 (C.src hbt) ⟨_, _, rfl⟩
    rw [show (slV (r1.q.1, r1.q.2) (r1.l.take K).length) = Value.slice r1.q.1 K r1.q.2 by rw [e1]] at hrs
    refine ⟨_, _, hrs, Nat.le_refl _, r1.q.1, r1.l.length, r1.q.2, C.blkCell (j := 0) rfl, by omega, by omega, rfl, C.there 0 1 (by show 0 + 1 ≤ 2; omega), ?_⟩
    have C2 := C.store 0 [.slice (X.cutA r1.q.1 r1.q.2 K 1) (r1.l.length - K) (r1.q.2 - K)] (by show 0 + 1 ≤ 2; omega)
    refine Ctr.ret (m' := m2) (L := []) ⟨(X.cutA r1.q.1 r1.q.2 K 1, r1.q.2 - K), r1.l.drop K, r1.e⟩ (by rw [hb']) ⟨⟨bs_drop hok.1 _ _ (by omega) hcap, by show (r1.l.drop K).length ≤ _; omega, by show (r1.l.drop K).length ≤ r1.q.2 - K; omega⟩, by rw [hb']; exact st0 (r := ⟨_, _, _⟩) he⟩ ?_
    show Ctx F m w _ [] m2 [blk b [.slice (X.cutA r1.q.1 r1.q.2 K 1) (r1.l.drop K).length (r1.q.2 - K), .int .i64 r1.e] 102]
    rw [e2]; exact C2
theorem c_r1End (b : Nat) (r : Rd1) : Ctr Tryz.prog 41 #[.pointer (some ⟨b, 0, none⟩)] noMem [r1A b r] (fun _ : Unit => .int .i64 (endS r.st)) (fun _ _ => True) (fun _ => [r1A b r]) := by
  refine Ctr.mk fun w F m C _ => x_r1End _ w _ ⟨r.e, C.blkCell (j := 1) rfl, ?_⟩
  by_cases he : r.e = 0
  · rw [if_pos (by simp [he])]
    have hs := st0 he
    refine ⟨r.q.1, r.l.length, r.q.2, C.blkCell (j := 0) rfl, ?_⟩
    cases hl : r.l with
    | nil =>
      rw [if_neg (by simp)]
      refine ⟨r.e, C.blkCell (j := 1) rfl, Ctr.ret () ?_ trivial C⟩
      rw [he, hs, hl]; rfl
    | cons c t =>
      rw [if_pos (by simp)]
      exact Ctr.ret () (by rw [hs, hl]; rfl) trivial C
  · rw [if_neg (by simp [he])]
    refine ⟨r.e, C.blkCell (j := 1) rfl, Ctr.ret () ?_ trivial C⟩
    rw [st1 he, endS, if_pos he]
theorem c_r2GetProc (b : Nat) (r : Rd1) : Ctr Tryz.prog 104 #[.pointer (some ⟨b, 0, none⟩)] (fun m => r.ok m) [r1A b r] (fun _ : Rd1 => PV ((procS r.st).1.1.toNat : Int) ((procS r.st).1.2 : Int)) (fun r' m => r'.ok m ∧ r'.st = (procS r.st).2) (fun r' => [r1A b r']) := by
  refine Ctr.mk fun w F m C hr => x_r2GetProc _ w _ fun w1 L2 h1 g1 => ?_
  refine (c_r1B b r).call (As := []) (C.hidL h1 g1) hr fun r1 m2 w4 hk hm h1 C => ⟨_, rfl, hk, ?_⟩
  refine (c_r1U b r1 65535 (by decide)).call (As := []) C h1.1 fun r2 m3 w7 hk hm3 h2 C => ⟨_, rfl, hk, fun w9 h9 => ?_⟩
  have hlt := uS_lt 65535 r1.st (by decide)
  rw [w_u16 (by omega) (by omega)]
  exact Ctr.ret (m' := m3) (L := []) r2 (by rw [procS, ← h1.2]) ⟨h2.1, by rw [procS, ← h1.2]; exact h2.2⟩ (C.hid0 h9)
abbrev ow (q : Sl) (l : List UInt8) : Asn := slA (slV q l.length) l.length (byV l) 5 1
theorem c_r1Put (n : Nat) (hn : n < 18446744073709551616) : Ctr Tryz.prog 74 #[.int .u64 (n : Int)] noMem [] (fun q : Sl => slV q (putU n).length) (fun _ _ => True) (fun q => [ow q (putU n)]) := by
  refine Ctr.mk fun w F m C _ => x_r1Put _ w _ ?_
  have h10 := putU_10 hn
  refine ⟨fun n' q k c w' _ => ∃ (j : Nat) (pre : List UInt8), n' = j ∧ pre.length = k ∧ j < 18446744073709551616 ∧ putU n = pre ++ putU j ∧ Ctx F m w w' [] m [ow (q, c) pre], fun n' _ _ _ _ => n'.toNat, ⟨n, [], rfl, rfl, hn, rfl, C.slNil⟩, ?_⟩
  clear C
  rintro n' q k c w7 L8 _ ⟨j, pre, rfl, rfl, hj, he, C⟩
  have hpl : pre.length ≤ 10 := by have := congrArg List.length he; simp only [List.length_append] at this; omega
  have step : ∀ (ch : UInt8), ∃ q2 c2 w9, (Builtin.append_ #[41, 41] 41 #[.slice q pre.length c, .slice (some ⟨w7.heap.size, 0, none⟩) 1 1]).run Tryz.prog (w7.alloc (.cells #[.int .u8 (ch.toNat : Int)] 5)) = .ok (.slice q2 (pre.length + 1) c2) w9 ∧ (w7.alloc (.cells #[.int .u8 (ch.toNat : Int)] 5)).heap.size ≤ w9.heap.size ∧ Ctx F m w w9 [] m [ow (q2, c2) (pre ++ [ch])] := fun ch => by
    have hcl : Cells _ ⟨w7.heap.size, 0, none⟩ [Value.int .u8 (ch.toNat : Int)] := (C.alloc [.int .u8 (ch.toNat : Int)] 5).blkCells (o := 0) fun k v e => by simpa using e
    have D := (C.alloc [.int .u8 (ch.toNat : Int)] 5).swap
    obtain ⟨q2, c2, w9, hr, hkk, D2⟩ := D.app2 (P := Tryz.prog) (bytes := 1) (t := 41) (t2 := 41) 41 (by kernel_rfl) (.some ⟨w7.heap.size, 0, none⟩ 1 1 [.int .u8 (ch.toNat : Int)] rfl hcl) (by unfold maxLen; omega) (by omega) (u8_one ch)
    refine ⟨q2, c2, w9, hr, hkk.size, ?_⟩
    have e : byV (pre ++ [ch]) = byV pre ++ [.int .u8 (ch.toNat : Int)] := by simp [byV]
    show Ctx F m w w9 [] m [slA (.slice q2 (pre ++ [ch]).length c2) (pre ++ [ch]).length (byV (pre ++ [ch])) 5 1]
    rw [e, List.length_append, List.length_singleton]
    exact D2.pk [0] [1] rfl
  by_cases h128 : j < 128
  · rw [if_neg (by simp only [decide_eq_true_eq]; omega)]
    have hb : IntKind.wrap .u8 (j : Int) = ((UInt8.ofNat j).toNat : Int) := by rw [w_u8 (by omega) (by omega), u8_nat (by omega)]
    rw [hb]
    obtain ⟨q2, c2, w9, s1, s2, s3⟩ := step (UInt8.ofNat j)
    have hel : putU n = pre ++ [UInt8.ofNat j] := by rw [he, putU_lt h128]
    refine ⟨q2, pre.length + 1, c2, w9, s1, s2, Ctr.ret (m' := m) (L := []) (q2, c2) (by rw [hel]; simp) trivial ?_⟩
    rw [hel]; exact s3
  · rw [if_pos (by simp only [decide_eq_true_eq]; omega)]
    have e0 : (j : Int).tmod 128 = ((j % 128 : Nat) : Int) := rfl
    have hb : IntKind.wrap .u8 (IntKind.wrap .u8 ((j : Int).tmod 128) + 128) = ((UInt8.ofNat (j % 128 + 128)).toNat : Int) := by
      rw [e0, w_u8 (n := ((j % 128 : Nat) : Int)) (by omega) (by omega), w_u8 (by omega) (by omega), u8_nat (by omega)]; omega
    rw [hb]
    obtain ⟨q2, c2, w9, s1, s2, s3⟩ := step (UInt8.ofNat (j % 128 + 128))
    have e1 : (j : Int).tdiv 128 = ((j / 128 : Nat) : Int) := rfl
    rw [e1, w_u64 (by omega) (by omega)]
    refine ⟨q2, pre.length + 1, c2, w9, s1, s2, ⟨j / 128, pre ++ [UInt8.ofNat (j % 128 + 128)], rfl, by simp, by omega, by rw [he, putU_ge h128]; simp, s3⟩, ?_⟩
    show (((j / 128 : Nat) : Int)).toNat + 1 ≤ ((j : Nat) : Int).toNat
    omega
theorem ow_app {F0 : List Nat} {m0 m : Mem} {w0 w : World} {L : List Nat} {As : List Asn} {q : Sl} {l k : List UInt8} {x : Value} (C : Ctx F0 m0 w0 w L m (ow q l :: As)) {t2 : TypeId} (hB : appB Tryz.prog 41 t2 5 1 1 = true) (hs : Src w 1 x k.length (byV k)) (hl : l.length + k.length ≤ 140737488355328) :
    ∃ q2 c2 w', (Builtin.append_ #[41, t2] 41 #[.slice q.1 l.length q.2, x]).run Tryz.prog w = .ok (.slice q2 (l.length + k.length) c2) w' ∧ Kept L w w' ∧ Ctx F0 m0 w0 w' L m (ow (q2, c2) (l ++ k) :: As) := by
  obtain ⟨q2, c2, w', hr, hk, D⟩ := Ctx.app2 (P := Tryz.prog) (bytes := 1) C 41 hB hs (by unfold maxLen; omega) (by omega) (byV_one _)
  refine ⟨q2, c2, w', hr, hk, ?_⟩
  have e : (l ++ k).length = l.length + k.length := List.length_append
  show Ctx F0 m0 w0 w' L m (slA (.slice q2 (l ++ k).length c2) (l ++ k).length (byV (l ++ k)) 5 1 :: As)
  rw [e, byV_append]; exact D
theorem c_r1Text (s : ByteArray) (hs : s.size ≤ 10000000) : Ctr Tryz.prog 131 #[.string s] noMem [] (fun q : Sl => slV q (putU s.size ++ s.data.toList).length) (fun _ _ => True) (fun q => [ow q (putU s.size ++ s.data.toList)]) := by
  refine Ctr.mk fun w F m C _ => x_r1Text _ w _ ?_
  rw [w_u64 (by omega) (by omega)]
  have h10 := putU_10 (n := s.size) (by omega)
  refine (c_r1Put s.size (by omega)).call (As := []) C trivial fun q m1 w2 hk hm _ C => ⟨q.1, _, q.2, rfl, hk.size, ?_⟩
  have hsl : s.data.toList.length = s.size := data_len s
  obtain ⟨q2, c2, w9, hr, hk2, D⟩ := ow_app C (t2 := 9) (by kernel_rfl) (x := .string s) (k := s.data.toList) (by rw [hsl]; exact .str s rfl) (by omega)
  refine ⟨q2, _, c2, w9, hr, hk2.size, Ctr.ret (m' := m1) (L := []) (q2, c2) (by rw [List.length_append]) trivial D⟩
theorem c_r7flag (f : Bool) : Gives Tryz.prog 79 #[.bool f] (.int .u8 ((flagB f).toNat : Int)) := fun w => x_r7flag _ w _ (by
  cases f
  · rw [if_neg (by decide)]; exact ⟨rfl, below_refl _ _⟩
  · rw [if_pos rfl]; exact ⟨rfl, below_refl _ _⟩)
theorem c_r2PutProc (n l : Int) (hn : 0 ≤ n ∧ n < 256) (hl : 0 ≤ l ∧ l < 65536) : Ctr Tryz.prog 81 #[PV n l] noMem [] (fun q : Sl => slV q (putP n l).length) (fun _ _ => True) (fun q => [ow q (putP n l)]) := by
  have h10 := putU_10 (n := l.toNat) (by omega)
  have e1 : Value.int .u8 n = .int .u8 ((u8 n).toNat : Int) := by rw [u8I hn]
  have e2 : Value.int .u64 (IntKind.wrap .u64 l) = .int .u64 (l.toNat : Int) := by rw [w_u64 (by omega) (by omega), natI hl.1]
  have hone : byV [u8 n] = [Value.int .u8 ((u8 n).toNat : Int)] := rfl
  have hpp : putP n l = [u8 n] ++ putU l.toNat := rfl
  refine Ctr.mk fun w F m C _ => x_r2PutProc _ _ w _ ?_
  rw [e1, e2]
  refine ⟨[], facts_nil _ _, fun w2 L3 h2 g2 => ⟨facts_nil _ _, ?_⟩, fun w13 L14 h13 g13 => ?_⟩
  · have D : Ctx F m w (w2.alloc (.cells #[.int .u8 ((u8 n).toNat : Int)] 5)) L3 m [ow (some ⟨w2.heap.size, 0, none⟩, 1) [u8 n]] := Ctx.slNew (cs := byV [u8 n]) (n := 1) rfl (by unfold maxLen; omega) (C.hidL h2 g2)
    refine (c_r1Put l.toNat (by omega)).call (As := [_]) D trivial fun q m1 w5 hk hm _ D => ⟨q.1, _, q.2, rfl, hk, facts_nil _ _, ?_⟩
    have D' : Ctx F m w w5 L3 m1 [ow q (putU l.toNat), ow (some ⟨w2.heap.size, 0, none⟩, 1) [u8 n]] := D
    obtain ⟨q2, c2, w9, hr, hk2, D2⟩ := ow_app D'.swap (t2 := 41) (by kernel_rfl) (x := slV q (putU l.toNat).length) (k := putU l.toNat) D'.slSrc (by simp only [List.length_singleton]; omega)
    exact ⟨q2, _, c2, w9, hr, hk2, facts_nil _ _, Ctr.ret (m' := m1) (L := L3) (q2, c2) (by rw [hpp, List.length_append]) trivial (D2.pk [0] [1] rfl)⟩
  · refine (c_r1Put l.toNat (by omega)).call (As := []) (C.hidL h13 g13) trivial fun q m1 w16 hk hm _ D => ⟨q.1, _, q.2, rfl, hk, facts_nil _ _, facts_nil _ _, ?_⟩
    have D0 : Ctx F m w (w16.alloc (.cells #[.int .u8 ((u8 n).toNat : Int)] 5)) L14 m1 [ow (some ⟨w16.heap.size, 0, none⟩, 1) [u8 n], ow q (putU l.toNat)] := Ctx.slNew (cs := byV [u8 n]) (n := 1) rfl (by unfold maxLen; omega) D
    obtain ⟨q2, c2, w9, hr, hk2, D2⟩ := ow_app D0 (t2 := 41) (by kernel_rfl) (x := slV q (putU l.toNat).length) (k := putU l.toNat) D0.swap.slSrc (by simp only [List.length_singleton]; omega)
    exact ⟨q2, _, c2, w9, hr, hk2, facts_nil _ _, Ctr.ret (m' := m1) (L := L14) (q2, c2) (by rw [hpp, List.length_append]) trivial (D2.pk [0] [1] rfl)⟩
end Go.Proofs
namespace Go.Proofs
open Go X RowKit
def textB (s : ByteArray) : List UInt8 := putU s.size ++ s.data.toList
def zigN (n : Int) : Nat := if n < 0 then 2 * (-(n + 1)).toNat + 1 else 2 * n.toNat
def stL (x : I) : List Pr := ([⟨x.g0, x.i0⟩, ⟨x.g1, x.i1⟩, ⟨x.g2, x.i2⟩] : List Pr).take x.d.toNat
def stB (p : Pr) : List UInt8 := [u8 p.n] ++ [u8 p.l]
def stRow (p : Pr) : List Value := [.int .u8 p.n, .int .u8 p.l]
theorem stRow_len (p : Pr) : (stRow p).length = 2 := rfl
def idB (x : I) : List UInt8 := putP x.n x.l ++ putU x.s.toNat ++ [u8 x.d] ++ (stL x).flatMap stB
def ptB (p : Pt) : List UInt8 := [u8 p.g] ++ [u8 p.k] ++ textB p.key ++ textB p.val ++ putU (zigN p.n)
def listB {α : Type} (f : α → List UInt8) (l : List α) : List UInt8 := [UInt8.ofNat (min l.length 255)] ++ (l.take 255).flatMap f
def resB (c : Int) (v : ByteArray) : List UInt8 := [u8 c] ++ textB v
def wrB (w : Wr) : List UInt8 := textB w.key ++ textB w.val ++ [flagB w.has]
def prB (p : Pr) : List UInt8 := putP p.n p.l
def vwB (g n : Int) (l : List Pr) : List UInt8 := [u8 g] ++ putU n.toNat ++ listB prB l
def evB (e : Ev) : List UInt8 := [u8 e.kd] ++ (if e.kd = 0 ∨ e.kd = 3 then idB e.id ++ putU e.fl.toNat ++ listB ptB e.ps ++ (if e.kd = 3 then resB e.rc e.rv ++ listB wrB e.ws else []) else if e.kd = 1 then idB e.id ++ resB e.rc e.rv else if e.kd = 2 then putP e.vn e.vl else [])
def evsB (l : List Ev) : List UInt8 := putU l.length ++ l.flatMap evB
structure PrW (p : Pr) : Prop where
  n : 0 ≤ p.n ∧ p.n < 256
  l : 0 ≤ p.l ∧ p.l < 65536
theorem u8V {n : Int} (h : 0 ≤ n ∧ n < 256) : Value.int .u8 n = .int .u8 ((u8 n).toNat : Int) := by rw [u8I h]
theorem u64V {n : Int} (h : 0 ≤ n ∧ n < 18446744073709551616) : Value.int .u64 (IntKind.wrap .u64 n) = .int .u64 (n.toNat : Int) := by rw [w_u64 (by omega) (by omega), natI h.1]
theorem zig_lt {n : Int} (h : -9223372036854775808 ≤ n ∧ n ≤ 9223372036854775807) : zigN n < 18446744073709551616 := by unfold zigN; split <;> omega
theorem b64 (x : Int) : BitVec.ofInt 64 (IntKind.u64.wrap x) = BitVec.ofInt 64 x := by
  apply BitVec.eq_of_toNat_eq
  rw [BitVec.toNat_ofInt, BitVec.toNat_ofInt]
  have : IntKind.u64.wrap x = x % 18446744073709551616 := rfl
  rw [this]
  congr 1
  exact Int.emod_emod_of_dvd x (by decide)
theorem zig_eq {n : Int} (h : -9223372036854775808 ≤ n ∧ n ≤ 9223372036854775807) : IntKind.wrap .u64 ((((BitVec.ofInt 64 (IntKind.u64.wrap (IntKind.u64.wrap n * 2)) ^^^ BitVec.ofInt 64 (IntKind.u64.wrap (n.fdiv 9223372036854775808))).toNat) : Nat) : Int) = ((zigN n : Nat) : Int) := by
  have hz := zig_lt h
  have e0 : BitVec.ofInt 64 (IntKind.u64.wrap (IntKind.u64.wrap n * 2)) = BitVec.ofInt 64 (n * 2) := by
    rw [b64]
    apply BitVec.eq_of_toNat_eq
    rw [BitVec.toNat_ofInt, BitVec.toNat_ofInt]
    have : IntKind.u64.wrap n = n % 18446744073709551616 := rfl
    rw [this]
    have e : ((2 ^ 64 : Nat) : Int) = 18446744073709551616 := rfl
    rw [e]; omega
  rw [e0, b64]
  have key : (BitVec.ofInt 64 (n * 2) ^^^ BitVec.ofInt 64 (n.fdiv 9223372036854775808)).toNat = zigN n := by
    unfold zigN
    split
    · have e1 : n.fdiv 9223372036854775808 = -1 := by rw [Int.fdiv_eq_ediv_of_nonneg _ (by decide)]; omega
      rw [e1]
      have e2 : BitVec.ofInt 64 (n * 2) ^^^ BitVec.ofInt 64 (-1) = ~~~ (BitVec.ofInt 64 (n * 2)) := by rw [BitVec.not_def, BitVec.xor_comm]; rfl
      rw [e2, BitVec.toNat_not, BitVec.toNat_ofInt]
      have e : ((2 ^ 64 : Nat) : Int) = 18446744073709551616 := rfl
      rw [e]; omega
    · have e1 : n.fdiv 9223372036854775808 = 0 := by rw [Int.fdiv_eq_ediv_of_nonneg _ (by decide)]; omega
      rw [e1]
      have e2 : BitVec.ofInt 64 (n * 2) ^^^ BitVec.ofInt 64 0 = BitVec.ofInt 64 (n * 2) := by
        have : BitVec.ofInt 64 0 = 0#64 := rfl
        rw [this, BitVec.xor_zero]
      rw [e2, BitVec.toNat_ofInt]
      have e : ((2 ^ 64 : Nat) : Int) = 18446744073709551616 := rfl
      rw [e]; omega
  rw [key, w_u64 (by omega) (by omega)]
theorem c_WBi (b : Nat) (v : Sl) (bs : List UInt8) (n : Int) (hn : 0 ≤ n ∧ n < 256) (hl : bs.length ≤ 1000000000) : Ctr Tryz.prog 20 #[.pointer (some ⟨b, 0, none⟩), .int .u8 n] noMem (wA b v bs) (fun _ : Sl => .tuple #[]) (fun _ _ => True) (fun v' => wA b v' (bs ++ [u8 n])) := by
  have := c_WB b v bs (u8 n) (by omega)
  rwa [u8I hn] at this
theorem c_WUi (b : Nat) (v : Sl) (bs : List UInt8) (n : Int) (hn : 0 ≤ n ∧ n < 18446744073709551616) (hl : bs.length ≤ 1000000000) : Ctr Tryz.prog 60 #[.pointer (some ⟨b, 0, none⟩), .int .u64 (IntKind.wrap .u64 n)] noMem (wA b v bs) (fun _ : Sl => .tuple #[]) (fun _ _ => True) (fun v' => wA b v' (bs ++ putU n.toNat)) := by
  have := c_WU b v bs n.toNat (by omega) (by omega)
  rwa [u64V hn]
theorem c_WTi (b : Nat) (v : Sl) (bs : List UInt8) (s : ByteArray) (hl : bs.length + (textB s).length ≤ 1000000000) : Ctr Tryz.prog 120 #[.pointer (some ⟨b, 0, none⟩), .string s] noMem (wA b v bs) (fun _ : Sl => .tuple #[]) (fun _ _ => True) (fun v' => wA b v' (bs ++ textB s)) := by
  have hs : s.data.toList.length = s.size := data_len s
  simp only [textB, List.length_append] at hl
  exact c_WText b v bs s (by omega) (by omega)
theorem c_Zig (n : Int) (h : -9223372036854775808 ≤ n ∧ n ≤ 9223372036854775807) : Gives Tryz.prog 169 #[.int .i64 n] (.int .u64 (zigN n : Int)) := fun w => x_Zig _ w _ ⟨by rw [zig_eq h], below_refl _ _⟩
theorem c_WI (b : Nat) (v : Sl) (bs : List UInt8) (n : Int) (h : -9223372036854775808 ≤ n ∧ n ≤ 9223372036854775807) (hl : bs.length ≤ 1000000000) : Ctr Tryz.prog 152 #[.pointer (some ⟨b, 0, none⟩), .int .i64 n] noMem (wA b v bs) (fun _ : Sl => .tuple #[]) (fun _ _ => True) (fun v' => wA b v' (bs ++ putU (zigN n))) := by
  refine Ctr.mk fun w F m C _ => x_WI _ _ w _ ?_
  refine C.gives (c_Zig n h) fun w2 k2 C => ⟨_, rfl, k2.size, ?_⟩
  exact (c_WU b v bs (zigN n) (zig_lt h) (by omega)).call (As := []) C trivial fun v' m1 w5 hk hm _ C => ⟨rfl, hk.size, Ctr.ret (m' := m1) (L := []) v' rfl trivial C⟩
theorem c_pPut (b : Nat) (v : Sl) (bs : List UInt8) (p : Pt) (hi : PtIn p) (hl : bs.length + (ptB p).length ≤ 1000000000) : Ctr Tryz.prog 119 #[.pointer (some ⟨b, 0, none⟩), .agg p.row.toArray] noMem (wA b v bs) (fun _ : Sl => .tuple #[]) (fun _ _ => True) (fun v' => wA b v' (bs ++ ptB p)) := by
  refine Ctr.mk fun w F m C _ => x_pPut _ _ _ _ _ _ w _ fun w1 L2 h1 g1 => ?_
  simp only [ptB, List.length_append, List.length_singleton] at hl
  refine (c_WBi b v bs p.g hi.g (by omega)).call (As := []) (C.hidL h1 g1) trivial fun v1 m1 w4 hk hm _ C => ⟨rfl, hk, ?_⟩
  refine (c_WBi b v1 _ p.k hi.k (by simp only [List.length_append, List.length_singleton]; omega)).call (As := []) C trivial fun v2 m2 w6 hk hm _ C => ⟨rfl, hk, ?_⟩
  refine (c_WTi b v2 _ p.key (by simp only [List.length_append, List.length_singleton]; omega)).call (As := []) C trivial fun v3 m3 w8 hk hm _ C => ⟨rfl, hk, ?_⟩
  refine (c_WTi b v3 _ p.val (by simp only [List.length_append, List.length_singleton]; omega)).call (As := []) C trivial fun v4 m4 w10 hk hm _ C => ⟨rfl, hk, ?_⟩
  refine (c_WI b v4 _ p.n hi.n (by simp only [List.length_append, List.length_singleton]; omega)).call (As := []) C trivial fun v5 m5 w12 hk hm _ C => ⟨rfl, hk, ?_⟩
  refine Ctr.ret (m' := m5) (L := L2) v5 rfl trivial ?_
  rw [ptB]; simp only [← List.append_assoc] at C ⊢; exact C
theorem c_PutRes (b : Nat) (v : Sl) (bs : List UInt8) (c : Int) (s : ByteArray) (hc : 0 ≤ c ∧ c < 256) (hl : bs.length + (resB c s).length ≤ 1000000000) : Ctr Tryz.prog 62 #[.pointer (some ⟨b, 0, none⟩), .agg #[.int .u8 c, .string s]] noMem (wA b v bs) (fun _ : Sl => .tuple #[]) (fun _ _ => True) (fun v' => wA b v' (bs ++ resB c s)) := by
  refine Ctr.mk fun w F m C _ => x_PutRes _ _ _ w _ fun w1 L2 h1 g1 => ?_
  simp only [resB, List.length_append, List.length_singleton] at hl
  refine (c_WBi b v bs c hc (by omega)).call (As := []) (C.hidL h1 g1) trivial fun v1 m1 w4 hk hm _ C => ⟨rfl, hk, ?_⟩
  refine (c_WTi b v1 _ s (by simp only [List.length_append, List.length_singleton]; omega)).call (As := []) C trivial fun v2 m2 w6 hk hm _ C => ⟨rfl, hk, ?_⟩
  refine Ctr.ret (m' := m2) (L := L2) v2 rfl trivial ?_
  rw [resB]; simp only [← List.append_assoc] at C ⊢; exact C
theorem c_putWrite (b : Nat) (v : Sl) (bs : List UInt8) (x : Wr) (hl : bs.length + (wrB x).length ≤ 1000000000) : Ctr Tryz.prog 153 #[.pointer (some ⟨b, 0, none⟩), .agg x.row.toArray] noMem (wA b v bs) (fun _ : Sl => .tuple #[]) (fun _ _ => True) (fun v' => wA b v' (bs ++ wrB x)) := by
  refine Ctr.mk fun w F m C _ => x_putWrite _ _ _ _ w _ fun w1 L2 h1 g1 => ?_
  simp only [wrB, List.length_append, List.length_singleton] at hl
  refine (c_WTi b v bs x.key (by omega)).call (As := []) (C.hidL h1 g1) trivial fun v1 m1 w4 hk hm _ C => ⟨rfl, hk, ?_⟩
  refine (c_WTi b v1 _ x.val (by simp only [List.length_append, List.length_singleton]; omega)).call (As := []) C trivial fun v2 m2 w6 hk hm _ C => ⟨rfl, hk, ?_⟩
  by_cases hh : x.has = true
  · rw [if_pos hh]
    refine (c_WB b v2 _ 1 (by simp only [List.length_append, List.length_singleton]; omega)).call (As := []) C trivial fun v3 m3 w10 hk hm _ C => ⟨rfl, hk, ?_⟩
    refine Ctr.ret (m' := m3) (L := L2) v3 rfl trivial ?_
    have : flagB x.has = 1 := by rw [hh]; rfl
    rw [wrB, this]; simp only [← List.append_assoc] at C ⊢; exact C
  · rw [if_neg hh]
    refine (c_WB b v2 _ 0 (by simp only [List.length_append, List.length_singleton]; omega)).call (As := []) C trivial fun v3 m3 w10 hk hm _ C => ⟨rfl, hk, ?_⟩
    refine Ctr.ret (m' := m3) (L := L2) v3 rfl trivial ?_
    have : flagB x.has = 0 := by rw [Bool.eq_false_iff.2 hh]; rfl
    rw [wrB, this]; simp only [← List.append_assoc] at C ⊢; exact C
theorem min255 (n : Nat) : (if (255 : Int) < (n : Int) then 255 else (n : Int)) = ((min n 255 : Nat) : Int) := by split <;> omega
theorem ofMin (n : Nat) : Value.int .u8 (IntKind.wrap .u8 ((min n 255 : Nat) : Int)) = .int .u8 (((UInt8.ofNat (min n 255)).toNat : Nat) : Int) := by
  rw [w_u8 (by omega) (by omega), u8_nat (by omega)]
theorem flat_le {α : Type} (f : α → List UInt8) {l : List α} {j : Nat} (hj : j < l.length) : ((l.take j).flatMap f).length + (f l[j]).length ≤ (l.flatMap f).length := by
  have : l = l.take j ++ l[j] :: l.drop (j + 1) := by rw [← List.drop_eq_getElem_cons hj, List.take_append_drop]
  have h2 := congrArg (fun l => (l.flatMap f).length) this
  simp only [List.flatMap_append, List.flatMap_cons, List.length_append] at h2
  omega
theorem flat_snoc {α : Type} (f : α → List UInt8) {l : List α} {j : Nat} (hj : j < l.length) : (l.take (j + 1)).flatMap f = (l.take j).flatMap f ++ f l[j] := by
  rw [List.take_succ_eq_append_getElem hj, List.flatMap_append]; simp
theorem msrc_255 {α : Type} {f : α → List Value} {k : Nat} (hk : ∀ a, (f a).length = k) {m : Mem} {q : Option Addr} {c : Nat} {l : List α} (h : MSrc m k (.slice q l.length c) l.length (l.flatMap f)) {i : Nat} (hi : i < min l.length 255) : ∃ a, q = some a ∧ MCells m (a.add (i * k)) (f ((l.take 255)[i]'(by rw [List.length_take]; omega))) := by
  have := h.elem hk (i := i) (by omega)
  rwa [List.getElem_take]
theorem c_pPutAll (b : Nat) (v : Sl) (bs : List UInt8) (q : Sl) (l : List Pt) (hq : l.length ≤ q.2) (hi : ∀ p ∈ l, PtIn p) (hl : bs.length + (listB ptB l).length ≤ 1000000000) : Ctr Tryz.prog 61 #[.pointer (some ⟨b, 0, none⟩), slV q l.length] (fun m => MSrc m 5 (slV q l.length) l.length (l.flatMap Pt.row)) (wA b v bs) (fun _ : Sl => .tuple #[]) (fun _ _ => True) (fun v' => wA b v' (bs ++ listB ptB l)) := by
  refine Ctr.mk fun w F m C hs => x_pPutAll _ _ _ _ w _ ?_
  simp only [listB, List.length_append, List.length_singleton] at hl
  rw [min255]
  refine ⟨by omega, by omega, ?_⟩
  rw [Int.toNat_natCast, ofMin]
  refine (c_WB b v bs _ (by omega)).call (As := []) C trivial fun v1 m0 w2 hk hm0 _ C => ⟨rfl, hk.size, ?_⟩
  replace hs := hs.mono hm0
  refine ⟨fun i w' L' => ∃ (j : Nat) (v' : Sl) (m' : Mem), i = j ∧ j ≤ min l.length 255 ∧ m0.le m' ∧ Ctx F m w w' L' m' (wA b v' ((bs ++ [UInt8.ofNat (min l.length 255)]) ++ ((l.take 255).take j).flatMap ptB)), fun i _ => (((min l.length 255 : Nat) : Int) - i).toNat, ⟨0, _, _, rfl, by omega, fun _ _ h => h, by rw [List.take_zero, List.flatMap_nil, List.append_nil]; exact C⟩, ?_⟩
  clear C
  rintro i wa La _ ⟨j, v', m', rfl, hj, hmj, C⟩
  have htl : (l.take 255).length = min l.length 255 := by rw [List.length_take, Nat.min_comm]
  by_cases hjl : j < min l.length 255
  rotate_left
  · rw [if_neg (by simp only [decide_eq_true_eq]; omega)]
    have : (l.take 255).take j = l.take 255 := List.take_of_length_le (by omega)
    rw [this] at C
    refine Ctr.ret (m' := m') (L := La) v' rfl trivial ?_
    rw [listB, ← List.append_assoc]; exact C
  rw [if_pos (by simp only [decide_eq_true_eq]; omega)]
  have hle := flat_le ptB (l := l.take 255) (j := j) (by omega)
  obtain ⟨a, ha, hc⟩ := msrc_255 pt_len (hs.mono hmj) hjl
  have hin := hi _ (List.mem_of_mem_take (List.getElem_mem (show j < (l.take 255).length by omega)))
  refine ⟨by omega, by omega, ?_⟩
  rw [cutA_zero, ha, onSome_some, Int.toNat_natCast]
  refine ⟨_, _, _, _, _, C.cells hc, fun wb Lb hb gb => ?_⟩
  refine (c_pPut b v' _ _ hin (by simp only [List.length_append, List.length_singleton]; omega)).call (As := []) (C.noL.hidL hb gb) trivial fun v2 m2 w9 hk hm2 _ C => ⟨rfl, hk, ?_, ?_⟩
  · refine ⟨j + 1, v2, m2, by rw [w_i64 (by omega) (by omega)]; omega, by omega, fun a v h => hm2 a v (hmj a v h), ?_⟩
    rw [flat_snoc ptB (l := l.take 255) (j := j) (by omega), ← List.append_assoc]
    exact C
  · exact Nat.le_of_eq (by show (((min l.length 255 : Nat) : Int) - IntKind.wrap .i64 ((j : Int) + 1)).toNat + 1 = (((min l.length 255 : Nat) : Int) - (j : Int)).toNat; rw [w_i64 (by omega) (by omega)]; omega)
theorem c_vPut (b : Nat) (v : Sl) (bs : List UInt8) (x : Vw) (hg : 0 ≤ x.g ∧ x.g < 256) (hn : 0 ≤ x.n ∧ x.n < 4294967296) (hq : x.ms.length ≤ x.q.2) (hi : ∀ p ∈ x.ms, PrW p) (hl : bs.length + (vwB x.g x.n x.ms).length ≤ 1000000000) : Ctr Tryz.prog 63 #[.pointer (some ⟨b, 0, none⟩), .agg x.row.toArray] (fun m => VwM m x) (wA b v bs) (fun _ : Sl => .tuple #[]) (fun _ _ => True) (fun v' => wA b v' (bs ++ vwB x.g x.n x.ms)) := by
  refine Ctr.mk fun w F m C hs => x_vPut _ _ _ _ _ _ w _ fun w1 L2 h1 g1 => ?_
  simp only [vwB, listB, List.length_append, List.length_singleton] at hl
  refine (c_WBi b v bs x.g hg (by omega)).call (As := []) (C.hidL h1 g1) trivial fun v1 m1 w4 hk hm1 _ C => ⟨rfl, hk, ?_⟩
  refine (c_WUi b v1 _ x.n ⟨hn.1, by omega⟩ (by simp only [List.length_append, List.length_singleton]; omega)).call (As := []) C trivial fun v2 m2 w6 hk hm2 _ C => ⟨rfl, hk, ?_⟩
  rw [min255]
  refine ⟨by omega, by omega, ?_⟩
  rw [Int.toNat_natCast, ofMin]
  refine (c_WB b v2 _ _ (by simp only [List.length_append, List.length_singleton]; omega)).call (As := []) C trivial fun v3 m0 w8 hk hm0 _ C => ⟨rfl, hk, ?_⟩
  replace hs : MSrc m0 2 (slV x.q x.ms.length) x.ms.length (x.ms.flatMap Pr.row) := MSrc.mono (MSrc.mono (MSrc.mono hs hm1) hm2) hm0
  refine ⟨fun i w' L' => ∃ (j : Nat) (v' : Sl) (m' : Mem), i = j ∧ j ≤ min x.ms.length 255 ∧ m0.le m' ∧ Ctx F m w w' L' m' (wA b v' ((bs ++ [u8 x.g] ++ putU x.n.toNat ++ [UInt8.ofNat (min x.ms.length 255)]) ++ ((x.ms.take 255).take j).flatMap prB)), fun i _ => (((min x.ms.length 255 : Nat) : Int) - i).toNat, ⟨0, _, _, rfl, by omega, fun _ _ h => h, by rw [List.take_zero, List.flatMap_nil, List.append_nil]; exact C⟩, ?_⟩
  clear C
  rintro i wa La _ ⟨j, v', m', rfl, hj, hmj, C⟩
  have htl : (x.ms.take 255).length = min x.ms.length 255 := by rw [List.length_take, Nat.min_comm]
  by_cases hjl : j < min x.ms.length 255
  rotate_left
  · rw [if_neg (by simp only [decide_eq_true_eq]; omega)]
    have : (x.ms.take 255).take j = x.ms.take 255 := List.take_of_length_le (by omega)
    rw [this] at C
    refine Ctr.ret (m' := m') (L := La) v' rfl trivial ?_
    rw [vwB, listB]; simp only [← List.append_assoc] at C ⊢; exact C
  rw [if_pos (by simp only [decide_eq_true_eq]; omega)]
  have hle := flat_le prB (l := x.ms.take 255) (j := j) (by omega)
  obtain ⟨a, ha, hc⟩ := msrc_255 pr_len (hs.mono hmj) hjl
  have hin := hi _ (List.mem_of_mem_take (List.getElem_mem (show j < (x.ms.take 255).length by omega)))
  refine ⟨by omega, by omega, ?_⟩
  rw [cutA_zero, ha, onSome_some, Int.toNat_natCast]
  refine ⟨_, _, C.cells hc, C.cellsL hc, fun wb Lb hb gb => ?_⟩
  refine (c_PutProc b v' _ _ _ hin.n hin.l (by simp only [List.length_append, List.length_singleton]; omega)).call (As := []) (C.hidL hb gb) trivial fun v2 m2 w9 hk hm2 _ C => ⟨rfl, hk, rfl, ?_, ?_⟩
  · refine ⟨j + 1, v2, m2, by rw [w_i64 (by omega) (by omega)]; omega, by omega, fun a v h => hm2 a v (hmj a v h), ?_⟩
    rw [flat_snoc prB (l := x.ms.take 255) (j := j) (by omega), ← List.append_assoc]
    exact C
  · exact Nat.le_of_eq (by show (((min x.ms.length 255 : Nat) : Int) - IntKind.wrap .i64 ((j : Int) + 1)).toNat + 1 = (((min x.ms.length 255 : Nat) : Int) - (j : Int)).toNat; rw [w_i64 (by omega) (by omega)]; omega)
theorem c_Wprocs (b : Nat) (v : Sl) (bs : List UInt8) (q : Sl) (l : List Pr) (hq : l.length ≤ q.2) (hi : ∀ p ∈ l, PrW p) (hl : bs.length + (listB prB l).length ≤ 1000000000) : Ctr Tryz.prog 122 #[.pointer (some ⟨b, 0, none⟩), slV q l.length] (fun m => MSrc m 2 (slV q l.length) l.length (l.flatMap Pr.row)) (wA b v bs) (fun _ : Sl => .tuple #[]) (fun _ _ => True) (fun v' => wA b v' (bs ++ listB prB l)) := by
  refine Ctr.mk fun w F m C hs => x_Wprocs _ _ _ _ w _ ?_
  simp only [listB, List.length_append, List.length_singleton] at hl
  rw [min255]
  refine ⟨by omega, by omega, ?_⟩
  rw [Int.toNat_natCast, ofMin]
  refine (c_WB b v bs _ (by omega)).call (As := []) C trivial fun v1 m0 w2 hk hm0 _ C => ⟨rfl, hk.size, ?_⟩
  replace hs := hs.mono hm0
  refine ⟨fun i w' L' => ∃ (j : Nat) (v' : Sl) (m' : Mem), i = j ∧ j ≤ min l.length 255 ∧ m0.le m' ∧ Ctx F m w w' L' m' (wA b v' ((bs ++ [UInt8.ofNat (min l.length 255)]) ++ ((l.take 255).take j).flatMap prB)), fun i _ => (((min l.length 255 : Nat) : Int) - i).toNat, ⟨0, _, _, rfl, by omega, fun _ _ h => h, by rw [List.take_zero, List.flatMap_nil, List.append_nil]; exact C⟩, ?_⟩
  clear C
  rintro i wa La _ ⟨j, v', m', rfl, hj, hmj, C⟩
  have htl : (l.take 255).length = min l.length 255 := by rw [List.length_take, Nat.min_comm]
  by_cases hjl : j < min l.length 255
  rotate_left
  · rw [if_neg (by simp only [decide_eq_true_eq]; omega)]
    have : (l.take 255).take j = l.take 255 := List.take_of_length_le (by omega)
    rw [this] at C
    refine Ctr.ret (m' := m') (L := La) v' rfl trivial ?_
    rw [listB, ← List.append_assoc]; exact C
  rw [if_pos (by simp only [decide_eq_true_eq]; omega)]
  have hle := flat_le prB (l := l.take 255) (j := j) (by omega)
  obtain ⟨a, ha, hc⟩ := msrc_255 pr_len (hs.mono hmj) hjl
  have hin := hi _ (List.mem_of_mem_take (List.getElem_mem (show j < (l.take 255).length by omega)))
  refine ⟨by omega, by omega, ?_⟩
  rw [cutA_zero, ha, onSome_some, Int.toNat_natCast]
  refine ⟨_, _, C.cells hc, [], facts_nil _ _, fun wb Lb hb gb => ?_⟩
  refine (c_PutProc b v' _ _ _ hin.n hin.l (by simp only [List.length_append, List.length_singleton]; omega)).call (As := []) (C.noL.hidL hb gb) trivial fun v2 m2 w9 hk hm2 _ C => ⟨rfl, hk, ?_, ?_⟩
  · refine ⟨j + 1, v2, m2, by rw [w_i64 (by omega) (by omega)]; omega, by omega, fun a v h => hm2 a v (hmj a v h), ?_⟩
    rw [flat_snoc prB (l := l.take 255) (j := j) (by omega), ← List.append_assoc]
    exact C
  · exact Nat.le_of_eq (by show (((min l.length 255 : Nat) : Int) - IntKind.wrap .i64 ((j : Int) + 1)).toNat + 1 = (((min l.length 255 : Nat) : Int) - (j : Int)).toNat; rw [w_i64 (by omega) (by omega)]; omega)
theorem c_steps (x : I) (hd : 0 ≤ x.d ∧ x.d < 256) : Ctr Tryz.prog 118 #[x.V] noMem [] (fun a : Addr => .slice (some a) (stL x).length 3) (fun a m => MSrc m 2 (.slice (some a) (stL x).length 3) (stL x).length ((stL x).flatMap stRow)) (fun _ => []) := by
  refine Ctr.mk fun w F m C _ => x_steps _ _ _ _ _ _ _ _ _ _ w _ fun w1 L2 h1 g1 => ?_
  have C1 := (C.hidL h1 g1).alloc [.int .u8 0, .int .u8 0, .int .u8 0, .int .u8 0, .int .u8 0, .int .u8 0] 49
  have hlen : (stL x).length = min 3 x.d.toNat := by rw [stL, List.length_take]; simp; omega
  have e0 : IntKind.wrap .i64 x.d = x.d := w_i64 (by omega) (by omega)
  have e1 : (if (3 : Int) < x.d then 3 else x.d) = (((stL x).length : Nat) : Int) := by rw [hlen]; split <;> omega
  rw [e0, e1]
  refine ⟨rfl, C1.there 0 6 (by show 0 + 6 ≤ 6; omega), C1.blkAt.2, by omega, by omega, ?_⟩
  have C2 := C1.store 0 [.int .u8 x.g0, .int .u8 x.i0, .int .u8 x.g1, .int .u8 x.i1, .int .u8 x.g2, .int .u8 x.i2] (by show 0 + 6 ≤ 6; omega)
  have hsp : splice [Value.int .u8 0, .int .u8 0, .int .u8 0, .int .u8 0, .int .u8 0, .int .u8 0] 0 [.int .u8 x.g0, .int .u8 x.i0, .int .u8 x.g1, .int .u8 x.i1, .int .u8 x.g2, .int .u8 x.i2] = [.int .u8 x.g0, .int .u8 x.i0, .int .u8 x.g1, .int .u8 x.i1, .int .u8 x.g2, .int .u8 x.i2] := rfl
  have hle := C2.share_le
  have C3 := C2.share
  rw [Int.toNat_natCast]
  refine Ctr.ret (L := L2) ⟨w1.heap.size, 0, none⟩ rfl ?_ C3
  refine MSrc.mk (by rw [flat_len stRow_len]) (fun a ha => ?_) (fun h => by cases h)
  injection ha with ha; subst ha
  refine Mem.plus_cells _ _ _ _ _ fun j u hj => ?_
  rw [Nat.zero_add]
  have hcs : ∀ k, (((([⟨x.g0, x.i0⟩, ⟨x.g1, x.i1⟩, ⟨x.g2, x.i2⟩] : List Pr).take k).flatMap stRow) <+: [.int .u8 x.g0, .int .u8 x.i0, .int .u8 x.g1, .int .u8 x.i1, .int .u8 x.g2, .int .u8 x.i2]) := fun k => by
    have h1 : ([⟨x.g0, x.i0⟩, ⟨x.g1, x.i1⟩, ⟨x.g2, x.i2⟩] : List Pr).take k ++ ([⟨x.g0, x.i0⟩, ⟨x.g1, x.i1⟩, ⟨x.g2, x.i2⟩] : List Pr).drop k = [⟨x.g0, x.i0⟩, ⟨x.g1, x.i1⟩, ⟨x.g2, x.i2⟩] := List.take_append_drop _ _
    refine ⟨(([⟨x.g0, x.i0⟩, ⟨x.g1, x.i1⟩, ⟨x.g2, x.i2⟩] : List Pr).drop k).flatMap stRow, ?_⟩
    rw [← List.flatMap_append, h1]; rfl
  obtain ⟨t, ht⟩ := hcs x.d.toNat
  have hjl := (List.getElem?_eq_some_iff.1 hj).1
  have ht' : (stL x).flatMap stRow ++ t = [.int .u8 x.g0, .int .u8 x.i0, .int .u8 x.g1, .int .u8 x.i1, .int .u8 x.g2, .int .u8 x.i2] := ht
  have h2 : ((stL x).flatMap stRow ++ t)[j]? = ((stL x).flatMap stRow)[j]? := List.getElem?_append_left hjl
  rw [ht', hj] at h2
  exact h2
theorem st_in {x : I} (hx : x.In) : ∀ p ∈ stL x, (0 ≤ p.n ∧ p.n < 256) ∧ (0 ≤ p.l ∧ p.l < 256) := fun p hp => by
  have := List.mem_of_mem_take hp
  simp only [List.mem_cons, List.not_mem_nil, or_false] at this
  rcases this with rfl | rfl | rfl
  · exact ⟨hx.g0, hx.i0⟩
  · exact ⟨hx.g1, hx.i1⟩
  · exact ⟨hx.g2, hx.i2⟩
theorem c_PutID (b : Nat) (v : Sl) (bs : List UInt8) (x : I) (hx : x.In) (hl : bs.length + (idB x).length ≤ 1000000000) : Ctr Tryz.prog 59 #[.pointer (some ⟨b, 0, none⟩), x.V] noMem (wA b v bs) (fun _ : Sl => .tuple #[]) (fun _ _ => True) (fun v' => wA b v' (bs ++ idB x)) := by
  refine Ctr.mk fun w F m C _ => x_PutID _ _ _ _ _ _ _ _ _ _ _ w _ fun w1 L2 h1 g1 => ?_
  simp only [idB, List.length_append, List.length_singleton] at hl
  refine (c_PutProc b v bs x.n x.l hx.n hx.l (by omega)).call (As := []) (C.hidL h1 g1) trivial fun v1 m1 w4 hk hm1 _ C => ⟨rfl, hk, ?_⟩
  refine (c_WUi b v1 _ x.s ⟨hx.s.1, by have := hx.s.2; omega⟩ (by simp only [List.length_append, List.length_singleton]; omega)).call (As := []) C trivial fun v2 m2 w6 hk hm2 _ C => ⟨rfl, hk, ?_⟩
  refine (c_WBi b v2 _ x.d hx.d (by simp only [List.length_append, List.length_singleton]; omega)).call (As := []) C trivial fun v3 m3 w8 hk hm3 _ C => ⟨rfl, hk, ?_⟩
  refine (c_steps x hx.d).call (As := wA b v3 _) C trivial fun a0 m0 w10 hk hm0 hs C => ⟨_, _, _, rfl, hk, ?_⟩
  replace C : Ctx F m w w10 L2 m0 (wA b v3 (bs ++ putP x.n x.l ++ putU x.s.toNat ++ [u8 x.d])) := C
  refine ⟨fun i w' L' => ∃ (j : Nat) (v' : Sl) (m' : Mem), i = j ∧ j ≤ (stL x).length ∧ m0.le m' ∧ Ctx F m w w' L' m' (wA b v' (bs ++ putP x.n x.l ++ putU x.s.toNat ++ [u8 x.d] ++ ((stL x).take j).flatMap stB)), fun i _ => (((stL x).length : Int) - i).toNat, ⟨0, _, _, rfl, by omega, fun _ _ h => h, by rw [List.take_zero, List.flatMap_nil, List.append_nil]; exact C⟩, ?_⟩
  clear C
  rintro i wa La _ ⟨j, v', m', rfl, hj, hmj, C⟩
  have hl3 : (stL x).length ≤ 3 := by rw [stL, List.length_take]; simp; omega
  by_cases hjl : j < (stL x).length
  rotate_left
  · rw [if_neg (by simp only [decide_eq_true_eq]; omega)]
    have : (stL x).take j = stL x := List.take_of_length_le (by omega)
    rw [this] at C
    refine Ctr.ret (m' := m') (L := La) v' rfl trivial ?_
    rw [idB]; simp only [← List.append_assoc] at C ⊢; exact C
  rw [if_pos (by simp only [decide_eq_true_eq]; omega)]
  have hle := flat_le stB hjl
  simp only [stB, List.length_append, List.length_singleton] at hle
  obtain ⟨a, ha, hc⟩ := (hs.mono hmj).elem stRow_len hjl
  have hin := st_in hx _ (List.getElem_mem hjl)
  refine ⟨by omega, by omega, ?_⟩
  rw [ha, onSome_some, Int.toNat_natCast]
  refine ⟨_, _, C.cells hc, C.cellsL hc, fun wb Lb hb gb => ?_⟩
  refine (c_WBi b v' _ _ hin.1 (by simp only [List.length_append, List.length_singleton, stB]; omega)).call (As := []) (C.hidL hb gb) trivial fun v5 m5 w25 hk hm5 _ C => ⟨rfl, hk, ?_⟩
  refine (c_WBi b v5 _ _ hin.2 (by simp only [List.length_append, List.length_singleton, stB]; omega)).call (As := []) C trivial fun v6 m6 w27 hk hm6 _ C => ⟨rfl, hk, rfl, ?_, ?_⟩
  · refine ⟨j + 1, v6, m6, by rw [w_i64 (by omega) (by omega)]; omega, by omega, fun a v h => hm6 a v (hm5 a v (hmj a v h)), ?_⟩
    rw [flat_snoc stB hjl]
    simp only [stB, ← List.append_assoc] at C ⊢
    exact C
  · exact Nat.le_of_eq (by show (((stL x).length : Int) - IntKind.wrap .i64 ((j : Int) + 1)).toNat + 1 = (((stL x).length : Int) - (j : Int)).toNat; rw [w_i64 (by omega) (by omega)]; omega)
end Go.Proofs
namespace Go.Proofs
open Go X RowKit
structure EnC (e : En) : Prop where
  p : e.ps.length ≤ e.pq.2
  w : e.ws.length ≤ e.wq.2
theorem evB0 {e : Ev} (h : e.kd = 0) : evB e = [u8 e.kd] ++ (idB e.id ++ putU e.fl.toNat ++ listB ptB e.ps) := by
  rw [evB, if_pos (Or.inl h), if_neg (by omega), List.append_nil]
theorem evB3 {e : Ev} (h : e.kd = 3) : evB e = [u8 e.kd] ++ (idB e.id ++ putU e.fl.toNat ++ listB ptB e.ps ++ (resB e.rc e.rv ++ listB wrB e.ws)) := by
  rw [evB, if_pos (Or.inr h), if_pos h]
theorem evB1 {e : Ev} (h : e.kd = 1) : evB e = [u8 e.kd] ++ (idB e.id ++ resB e.rc e.rv) := by
  rw [evB, if_neg (by omega), if_pos h]
theorem evB2 {e : Ev} (h : e.kd = 2) : evB e = [u8 e.kd] ++ putP e.vn e.vl := by
  rw [evB, if_neg (by omega), if_neg (by omega), if_pos h]
theorem evBx {e : Ev} (h0 : e.kd ≠ 0) (h1 : e.kd ≠ 1) (h2 : e.kd ≠ 2) (h3 : e.kd ≠ 3) : evB e = [u8 e.kd] := by
  rw [evB, if_neg (by omega), if_neg h1, if_neg h2, List.append_nil]
theorem c_ePut (b : Nat) (v : Sl) (bs : List UInt8) (e : En) (hi : EvIn e.er) (hc : EnC e) (hl : bs.length + (evB e.er).length ≤ 1000000000) : Ctr Tryz.prog 121 #[.pointer (some ⟨b, 0, none⟩), .agg e.row.toArray] (fun m => EnM m e) (wA b v bs) (fun _ : Sl => .tuple #[]) (fun _ _ => True) (fun v' => wA b v' (bs ++ evB e.er)) := by
  refine Ctr.mk fun w F m C hs => x_ePut _ _ _ _ _ _ _ _ _ _ _ _ _ _ _ _ _ _ _ _ _ _ _ w _ fun w1 L2 h1 g1 => ?_
  have hl0 : bs.length ≤ 1000000000 := by omega
  refine (c_WBi b v bs e.kd hi.kd hl0).call (As := []) (C.hidL h1 g1) trivial fun v1 m1 w4 hk hm1 _ C => ⟨rfl, hk, ?_⟩
  have hp := hs.p.mono hm1
  have hw := hs.w.mono hm1
  clear hs
  by_cases k0 : e.kd = 0
  · have eb : evB e.er = _ := evB0 k0
    rw [eb] at hl ⊢
    rw [k0] at C ⊢
    repeat (first | rw [if_pos (by decide)] | rw [if_neg (by decide)])
    change bs.length + ([u8 e.kd] ++ (idB e.id ++ putU e.fl.toNat ++ listB ptB e.ps)).length ≤ _ at hl
    refine (c_PutID b v1 _ e.id hi.id (by simp only [List.length_append, List.length_singleton] at hl ⊢; omega)).call (As := []) C trivial fun v2 m2 w5 hk hm2 _ C => ⟨rfl, hk, ?_⟩
    refine (c_WUi b v2 _ e.fl ⟨hi.fl.1, by have := hi.fl.2; change e.fl < _ at this; omega⟩ (by simp only [List.length_append, List.length_singleton] at hl ⊢; omega)).call (As := []) C trivial fun v3 m3 w6 hk hm3 _ C => ⟨rfl, hk, ?_⟩
    refine (c_pPutAll b v3 _ e.pq e.ps hc.p hi.ps (by simp only [List.length_append, List.length_singleton] at hl ⊢; omega)).call (As := []) C ((hp.mono hm2).mono hm3) fun v4 m4 w7 hk hm4 _ C => ⟨rfl, hk, ?_⟩
    repeat (first | rw [if_pos (by decide)] | rw [if_neg (by decide)])
    refine Ctr.ret (m' := m4) (L := L2) v4 rfl trivial ?_
    have : e.er.kd = 0 := k0
    rw [this]; simp only [← List.append_assoc] at C ⊢; exact C
  by_cases k3 : e.kd = 3
  · have eb : evB e.er = _ := evB3 k3
    rw [eb] at hl ⊢
    rw [k3] at C ⊢
    repeat (first | rw [if_pos (by decide)] | rw [if_neg (by decide)])
    change bs.length + ([u8 e.kd] ++ (idB e.id ++ putU e.fl.toNat ++ listB ptB e.ps ++ (resB e.rc e.rv ++ listB wrB e.ws))).length ≤ _ at hl
    refine (c_PutID b v1 _ e.id hi.id (by simp only [List.length_append, List.length_singleton] at hl ⊢; omega)).call (As := []) C trivial fun v2 m2 w5 hk hm2 _ C => ⟨rfl, hk, ?_⟩
    refine (c_WUi b v2 _ e.fl ⟨hi.fl.1, by have := hi.fl.2; change e.fl < _ at this; omega⟩ (by simp only [List.length_append, List.length_singleton] at hl ⊢; omega)).call (As := []) C trivial fun v3 m3 w6 hk hm3 _ C => ⟨rfl, hk, ?_⟩
    refine (c_pPutAll b v3 _ e.pq e.ps hc.p hi.ps (by simp only [List.length_append, List.length_singleton] at hl ⊢; omega)).call (As := []) C ((hp.mono hm2).mono hm3) fun v4 m4 w7 hk hm4 _ C => ⟨rfl, hk, ?_⟩
    repeat (first | rw [if_pos (by decide)] | rw [if_neg (by decide)])
    refine (c_PutRes b v4 _ e.rc e.rv hi.rc (by simp only [List.length_append, List.length_singleton] at hl ⊢; omega)).call (As := []) C trivial fun v5 m5 w8 hk hm5 _ C => ⟨rfl, hk, ?_⟩
    rw [min255]
    refine ⟨by omega, by have := hc.w; omega, ?_⟩
    rw [Int.toNat_natCast, ofMin]
    have hlw : (listB wrB e.ws).length = 1 + ((e.ws.take 255).flatMap wrB).length := by rw [listB, List.length_append]; rfl
    simp only [List.length_append, List.length_singleton, hlw] at hl
    refine (c_WB b v5 _ _ (by simp only [List.length_append, List.length_singleton]; omega)).call (As := []) C trivial fun v6 m0 w20 hk hm0 _ C => ⟨rfl, hk, ?_⟩
    replace hs : MSrc m0 3 (slV e.wq e.ws.length) e.ws.length (e.ws.flatMap Wr.row) := MSrc.mono (MSrc.mono (MSrc.mono (MSrc.mono (MSrc.mono hw hm2) hm3) hm4) hm5) hm0
    refine ⟨fun i w' L' => ∃ (j : Nat) (v' : Sl) (m' : Mem), i = j ∧ j ≤ min e.ws.length 255 ∧ m0.le m' ∧ Ctx F m w w' L' m' (wA b v' ((bs ++ [u8 3] ++ idB e.id ++ putU e.fl.toNat ++ listB ptB e.ps ++ resB e.rc e.rv ++ [UInt8.ofNat (min e.ws.length 255)]) ++ ((e.ws.take 255).take j).flatMap wrB)), fun i _ => (((min e.ws.length 255 : Nat) : Int) - i).toNat, ⟨0, _, _, rfl, by omega, fun _ _ h => h, by rw [List.take_zero, List.flatMap_nil, List.append_nil]; exact C⟩, ?_⟩
    clear C
    rintro i wa La _ ⟨j, v', m', rfl, hj, hmj, C⟩
    have htl : (e.ws.take 255).length = min e.ws.length 255 := by rw [List.length_take, Nat.min_comm]
    by_cases hjl : j < min e.ws.length 255
    rotate_left
    · rw [if_neg (by simp only [decide_eq_true_eq]; omega)]
      have : (e.ws.take 255).take j = e.ws.take 255 := List.take_of_length_le (by omega)
      rw [this] at C
      refine Ctr.ret (m' := m') (L := La) v' rfl trivial ?_
      have : e.er.kd = 3 := k3
      have e9 : listB wrB e.er.ws = [UInt8.ofNat (min e.ws.length 255)] ++ (e.ws.take 255).flatMap wrB := rfl
      rw [this, e9]; simp only [← List.append_assoc] at C ⊢; exact C
    rw [if_pos (by simp only [decide_eq_true_eq]; omega)]
    have hle := flat_le wrB (l := e.ws.take 255) (j := j) (by omega)
    obtain ⟨a, ha, hc⟩ := msrc_255 wr_len (hs.mono hmj) hjl
    have hin := True.intro
    refine ⟨by omega, by omega, ?_⟩
    rw [cutA_zero, ha, onSome_some, Int.toNat_natCast]
    refine ⟨_, _, _, C.cells hc, C.cellsL hc, fun wb Lb hb gb => ?_⟩
    refine (c_putWrite b v' _ _ (by simp only [List.length_append, List.length_singleton]; omega)).call (As := []) (C.hidL hb gb) trivial fun v2 m2 w9 hk hm2 _ C => ⟨rfl, hk, rfl, ?_, ?_⟩
    · refine ⟨j + 1, v2, m2, by rw [w_i64 (by omega) (by omega)]; omega, by omega, fun a v h => hm2 a v (hmj a v h), ?_⟩
      rw [flat_snoc wrB (l := e.ws.take 255) (j := j) (by omega), ← List.append_assoc]
      exact C
    · exact Nat.le_of_eq (by show (((min e.ws.length 255 : Nat) : Int) - IntKind.wrap .i64 ((j : Int) + 1)).toNat + 1 = (((min e.ws.length 255 : Nat) : Int) - (j : Int)).toNat; rw [w_i64 (by omega) (by omega)]; omega)
  by_cases k1 : e.kd = 1
  · have eb : evB e.er = _ := evB1 k1
    rw [eb] at hl ⊢
    rw [k1] at C ⊢
    repeat (first | rw [if_pos (by decide)] | rw [if_neg (by decide)])
    change bs.length + ([u8 e.kd] ++ (idB e.id ++ resB e.rc e.rv)).length ≤ _ at hl
    refine (c_PutID b v1 _ e.id hi.id (by simp only [List.length_append, List.length_singleton] at hl ⊢; omega)).call (As := []) C trivial fun v2 m2 w5 hk hm2 _ C => ⟨rfl, hk, ?_⟩
    refine (c_PutRes b v2 _ e.rc e.rv hi.rc (by simp only [List.length_append, List.length_singleton] at hl ⊢; omega)).call (As := []) C trivial fun v5 m5 w8 hk hm5 _ C => ⟨rfl, hk, ?_⟩
    refine Ctr.ret (m' := m5) (L := L2) v5 rfl trivial ?_
    have : e.er.kd = 1 := k1
    rw [this]; simp only [← List.append_assoc] at C ⊢; exact C
  by_cases k2 : e.kd = 2
  · have eb : evB e.er = _ := evB2 k2
    rw [eb] at hl ⊢
    rw [k2] at C ⊢
    repeat (first | rw [if_pos (by decide)] | rw [if_neg (by decide)])
    change bs.length + ([u8 e.kd] ++ putP e.vn e.vl).length ≤ _ at hl
    refine (c_PutProc b v1 _ e.vn e.vl hi.vn hi.vl (by simp only [List.length_append, List.length_singleton] at hl ⊢; omega)).call (As := []) C trivial fun v2 m2 w5 hk hm2 _ C => ⟨rfl, hk, ?_⟩
    refine Ctr.ret (m' := m2) (L := L2) v2 rfl trivial ?_
    have : e.er.kd = 2 := k2
    rw [this]; simp only [← List.append_assoc] at C ⊢; exact C
  have eb : evB e.er = _ := evBx (e := e.er) k0 k1 k2 k3
  rw [eb]
  rw [if_neg (by simpa using k0), if_neg (by simpa using k3), if_neg (by simpa using k1), if_neg (by simpa using k2)]
  exact Ctr.ret (m' := m1) (L := L2) v1 rfl trivial C
theorem c_ePutAll (b : Nat) (v : Sl) (bs : List UInt8) (q : Sl) (l : List En) (hc : ∀ e ∈ l, EnC e) (hi : ∀ e ∈ l, EvIn e.er) (hl : bs.length + (evsB (l.map En.er)).length ≤ 1000000000) (hn : l.length ≤ 100000) : Ctr Tryz.prog 64 #[.pointer (some ⟨b, 0, none⟩), slV q l.length] (fun m => EsM m q l) (wA b v bs) (fun _ : Sl => .tuple #[]) (fun _ _ => True) (fun v' => wA b v' (bs ++ evsB (l.map En.er))) := by
  refine Ctr.mk fun w F m C hs => x_ePutAll _ _ _ _ w _ ?_
  simp only [evsB, List.length_append, List.length_map] at hl
  have e0 : Value.int .u64 (IntKind.wrap .u64 ((l.length : Nat) : Int)) = .int .u64 ((l.length : Nat) : Int) := by rw [w_u64 (by omega) (by omega)]
  rw [e0]
  refine (c_WU b v bs l.length (by omega) (by omega)).call (As := []) C trivial fun v1 m0 w2 hk hm0 _ C => ⟨rfl, hk.size, ?_⟩
  replace hs : EsM m0 q l := EsM.mono hs hm0
  refine ⟨fun i w' L' => ∃ (j : Nat) (v' : Sl) (m' : Mem), i = j ∧ j ≤ l.length ∧ m0.le m' ∧ Ctx F m w w' L' m' (wA b v' (bs ++ putU l.length ++ ((l.map En.er).take j).flatMap evB)), fun i _ => ((l.length : Int) - i).toNat, ⟨0, _, _, rfl, by omega, fun _ _ h => h, by rw [List.take_zero, List.flatMap_nil, List.append_nil]; exact C⟩, ?_⟩
  clear C
  rintro i wa La _ ⟨j, v', m', rfl, hj, hmj, C⟩
  by_cases hjl : j < l.length
  rotate_left
  · rw [if_neg (by simp only [decide_eq_true_eq]; omega)]
    have : (l.map En.er).take j = l.map En.er := List.take_of_length_le (by rw [List.length_map]; omega)
    rw [this] at C
    refine Ctr.ret (m' := m') (L := La) v' rfl trivial ?_
    rw [evsB, List.length_map, ← List.append_assoc]; exact C
  rw [if_pos (by simp only [decide_eq_true_eq]; omega)]
  have hle := flat_le evB (l := l.map En.er) (j := j) (by rw [List.length_map]; exact hjl)
  rw [List.getElem_map] at hle
  have hsj := EsM.mono hs hmj
  obtain ⟨a, ha, hcl⟩ := hsj.1.elem en_len hjl
  have hmem := List.getElem_mem hjl
  refine ⟨by omega, by omega, ?_⟩
  rw [ha, onSome_some, Int.toNat_natCast]
  refine ⟨_, _, _, _, _, _, _, _, _, _, _, _, _, _, _, _, _, _, _, _, _, _, C.cells hcl, fun wb Lb hb gb => ?_⟩
  refine (c_ePut b v' _ l[j] (hi _ hmem) (hc _ hmem) (by simp only [List.length_append]; omega)).call (As := []) (C.noL.hidL hb gb) (hsj.2 _ hmem) fun v2 m2 w9 hk hm2 _ C => ⟨rfl, hk, ?_, ?_⟩
  · refine ⟨j + 1, v2, m2, by rw [w_i64 (by omega) (by omega)]; omega, by omega, fun a v h => hm2 a v (hmj a v h), ?_⟩
    rw [flat_snoc evB (l := l.map En.er) (j := j) (by rw [List.length_map]; exact hjl), ← List.append_assoc, List.getElem_map]
    exact C
  · exact Nat.le_of_eq (by show ((l.length : Int) - IntKind.wrap .i64 ((j : Int) + 1)).toNat + 1 = ((l.length : Int) - (j : Int)).toNat; rw [w_i64 (by omega) (by omega)]; omega)
end Go.Proofs
