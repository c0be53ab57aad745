import Derived.Test.YtjphfelmaingjaaU07fd
import Derived.Test.YtjphfelmaingjaaV07fd
set_option linter.unusedVariables false
set_option linter.unusedSimpArgs false
set_option maxRecDepth 10000
namespace Go.Proofs
open Go X RowKit
/-! ### a writer, and what it has written -/
def wA (b : Nat) (v : Sl) (bs : List UInt8) : List Asn := [blk b [slV v bs.length] 119, slA (slV v bs.length) bs.length (byV bs) 5 1]
theorem u8_one (c : UInt8) : ∀ u ∈ [Value.int .u8 (c.toNat : Int)], oneC u = true := by intro u h; simp at h; subst h; rfl
theorem c_WB (b : Nat) (v : Sl) (bs : List UInt8) (c : UInt8) (hl : bs.length ≤ 140737488355200) : Ctr Try.prog 79 #[.pointer (some ⟨b, 0, none⟩), .int .u8 (c.toNat : Int)] noMem (wA b v bs) (fun _ : Sl => .tuple #[]) (fun _ _ => True) (fun v' => wA b v' (bs ++ [c])) := by
  refine Ctr.mk fun w F m C _ => x_WB _ _ w _ ⟨v.1, bs.length, v.2, C.blkCell (j := 0) rfl, ?_⟩
  have hcl : Cells _ ⟨w.heap.size, 0, none⟩ [Value.int .u8 (c.toNat : Int)] := (C.alloc [.int .u8 (c.toNat : Int)] 5).blkCells (o := 0) fun k v e => by simpa using e
  have D : Ctx F m w _ [] m [slA (slV v bs.length) bs.length (byV bs) 5 1, blk w.heap.size [.int .u8 (c.toNat : Int)] 5, blk b [slV v bs.length] 119] := Ctx.pm (C.alloc [.int .u8 (c.toNat : Int)] 5) [2, 0, 1] rfl
  obtain ⟨q2, c2, w7, hr, hkk, D2⟩ := D.app2 (P := Try.prog) (bytes := 1) (t := 66) (t2 := 66) 66 (by kernel_rfl) (.some ⟨w.heap.size, 0, none⟩ 1 1 [.int .u8 (c.toNat : Int)] rfl hcl) (by unfold maxLen; omega) (by omega) (u8_one c)
  have D3 : Ctx F m w w7 [] m [blk b [slV v bs.length] 119, slA (.slice q2 (bs.length + 1) c2) (bs.length + 1) (byV bs ++ [.int .u8 (c.toNat : Int)]) 5 1] := Ctx.pk D2 [2, 0] [1] rfl
  refine ⟨q2, bs.length + 1, c2, w7, hr, hkk.size, rfl, D3.there 0 1 (Nat.le_refl 1), ?_⟩
  refine Ctr.ret (m' := m) (L := []) (q2, c2) rfl trivial ?_
  have D4 := D3.store 0 [.slice q2 (bs.length + 1) c2] (Nat.le_refl 1)
  have e : byV (bs ++ [c]) = byV bs ++ [.int .u8 (c.toNat : Int)] := by simp [byV]
  rw [wA, e, List.length_append, List.length_singleton]
  exact D4
/-- a number's bytes -/
def putU (n : Nat) : List UInt8 := if n < 128 then [UInt8.ofNat n] else UInt8.ofNat (n % 128 + 128) :: putU (n / 128)
termination_by n
decreasing_by omega
theorem putU_lt {n : Nat} (h : n < 128) : putU n = [UInt8.ofNat n] := by rw [putU, if_pos h]
theorem putU_ge {n : Nat} (h : ¬ n < 128) : putU n = UInt8.ofNat (n % 128 + 128) :: putU (n / 128) := by rw [putU, if_neg h]
theorem putU_len : ∀ (j n : Nat), n < 128 ^ (j + 1) → (putU n).length ≤ j + 1
  | 0, n, h => by rw [putU_lt (by simpa using h)]; simp
  | j + 1, n, h => by
    by_cases h1 : n < 128
    · rw [putU_lt h1]; simp
    · rw [putU_ge h1, List.length_cons]
      have : n / 128 < 128 ^ (j + 1) := by rw [Nat.div_lt_iff_lt_mul (by decide), ← Nat.pow_succ]; exact h
      have := putU_len j (n / 128) this
      omega
theorem putU_10 {n : Nat} (h : n < 18446744073709551616) : (putU n).length ≤ 10 := putU_len 9 n (Nat.lt_of_lt_of_le h (by decide))
theorem putU_pos (n : Nat) : 1 ≤ (putU n).length := by
  by_cases h : n < 128
  · rw [putU_lt h]; simp
  · rw [putU_ge h]; simp
theorem u8_nat {n : Nat} (h : n < 256) : ((UInt8.ofNat n).toNat : Int) = n := by
  have : (UInt8.ofNat n).toNat = n % 256 := rfl
  rw [this, Nat.mod_eq_of_lt h]
theorem or128 (k : Nat) : IntKind.wrap .u8 (((BitVec.ofInt 8 (IntKind.u8.wrap (k : Int)) ||| BitVec.ofInt 8 128).toNat : Nat) : Int) = ((UInt8.ofNat (k % 128 + 128)).toNat : Int) := by
  have hw : IntKind.u8.wrap (k : Int) = ((k % 256 : Nat) : Int) := by simp [IntKind.wrap, IntKind.bits, IntKind.signed]
  rw [hw, u8_nat (by omega)]
  have h : ∀ r : Fin 256, (((BitVec.ofInt 8 ((r.val : Nat) : Int) ||| BitVec.ofInt 8 128).toNat : Nat) : Int) = ((r.val % 128 + 128 : Nat) : Int) := by decide +kernel
  have h2 := h ⟨k % 256, Nat.mod_lt _ (by decide)⟩
  rw [h2]
  have : k % 256 % 128 = k % 128 := Nat.mod_mod_of_dvd k (by decide)
  simp only [this]
  rw [w_u8 (by omega) (by omega)]
theorem fdiv128 (k : Nat) : (k : Int).fdiv 128 = ((k / 128 : Nat) : Int) := by rw [Int.fdiv_eq_ediv_of_nonneg _ (by decide)]; rfl
theorem c_WU (b : Nat) (v : Sl) (bs : List UInt8) (n : Nat) (hn : n < 18446744073709551616) (hl : bs.length ≤ 140737488355000) : Ctr Try.prog 54 #[.pointer (some ⟨b, 0, none⟩), .int .u64 (n : Int)] noMem (wA b v bs) (fun _ : Sl => .tuple #[]) (fun _ _ => True) (fun v' => wA b v' (bs ++ putU n)) := by
  refine Ctr.mk fun w F m C _ => x_WU _ _ w _ ?_
  have h10 := putU_10 hn
  refine ⟨fun n' w' _ => ∃ (k : Nat) (v' : Sl) (pre : List UInt8), n' = k ∧ k < 18446744073709551616 ∧ bs ++ putU n = pre ++ putU k ∧ Ctx F m w w' [] m (wA b v' pre), fun n' _ => n'.toNat, ⟨n, v, bs, rfl, hn, rfl, C⟩, ?_⟩
  clear C
  rintro n' w4 L5 _ ⟨k, v', pre, rfl, hk, he, C⟩
  have hpl : pre.length ≤ 140737488355200 := by have := congrArg List.length he; simp only [List.length_append] at this; omega
  have step : ∀ (c : UInt8), ∃ q2 c2 w7, (Builtin.append_ #[66, 66] 66 #[.slice v'.1 pre.length v'.2, .slice (some ⟨w4.heap.size, 0, none⟩) 1 1]).run Try.prog (w4.alloc (.cells #[.int .u8 (c.toNat : Int)] 5)) = .ok (.slice q2 (pre.length + 1) c2) w7 ∧ (w4.alloc (.cells #[.int .u8 (c.toNat : Int)] 5)).heap.size ≤ w7.heap.size ∧ World.there w7 b 0 1 ∧ Ctx F m w (w7.setCells b 0 [.slice q2 (pre.length + 1) c2]) [] m (wA b (q2, c2) (pre ++ [c])) := fun c => by
    have hcl : Cells _ ⟨w4.heap.size, 0, none⟩ [Value.int .u8 (c.toNat : Int)] := (C.alloc [.int .u8 (c.toNat : Int)] 5).blkCells (o := 0) fun k v e => by simpa using e
    have D : Ctx F m w _ [] m [slA (slV v' pre.length) pre.length (byV pre) 5 1, blk w4.heap.size [.int .u8 (c.toNat : Int)] 5, blk b [slV v' pre.length] 119] := Ctx.pm (C.alloc [.int .u8 (c.toNat : Int)] 5) [2, 0, 1] rfl
    obtain ⟨q2, c2, w7, hr, hkk, D2⟩ := D.app2 (P := Try.prog) (bytes := 1) (t := 66) (t2 := 66) 66 (by kernel_rfl) (.some ⟨w4.heap.size, 0, none⟩ 1 1 [.int .u8 (c.toNat : Int)] rfl hcl) (by unfold maxLen; omega) (by omega) (u8_one c)
    have D3 : Ctx F m w w7 [] m [blk b [slV v' pre.length] 119, slA (.slice q2 (pre.length + 1) c2) (pre.length + 1) (byV pre ++ [.int .u8 (c.toNat : Int)]) 5 1] := Ctx.pk D2 [2, 0] [1] rfl
    refine ⟨q2, c2, w7, hr, hkk.size, D3.there 0 1 (Nat.le_refl 1), ?_⟩
    have D4 := D3.store 0 [.slice q2 (pre.length + 1) c2] (Nat.le_refl 1)
    have e : byV (pre ++ [c]) = byV pre ++ [.int .u8 (c.toNat : Int)] := by simp [byV]
    rw [wA, e, List.length_append, List.length_singleton]
    exact D4
  by_cases h128 : k < 128
  · rw [if_neg (by simp only [decide_eq_true_eq]; omega)]
    refine ⟨v'.1, pre.length, v'.2, C.blkCell (j := 0) rfl, ?_⟩
    have hb : IntKind.wrap .u8 (k : Int) = ((UInt8.ofNat k).toNat : Int) := by rw [w_u8 (by omega) (by omega), u8_nat (by omega)]
    rw [hb]
    obtain ⟨q2, c2, w7, s1, s2, s3, s4⟩ := step (UInt8.ofNat k)
    refine ⟨q2, pre.length + 1, c2, w7, s1, s2, rfl, s3, Ctr.ret (m' := m) (L := []) (q2, c2) rfl trivial ?_⟩
    rw [he, putU_lt h128]; exact s4
  · rw [if_pos (by simp only [decide_eq_true_eq]; omega)]
    refine ⟨v'.1, pre.length, v'.2, C.blkCell (j := 0) rfl, ?_⟩
    rw [or128]
    obtain ⟨q2, c2, w7, s1, s2, s3, s4⟩ := step (UInt8.ofNat (k % 128 + 128))
    refine ⟨q2, pre.length + 1, c2, w7, s1, s2, rfl, s3, ?_⟩
    rw [fdiv128]
    refine ⟨⟨k / 128, (q2, c2), pre ++ [UInt8.ofNat (k % 128 + 128)], rfl, by omega, by rw [he, putU_ge h128]; simp, s4⟩, ?_⟩
    show (((k / 128 : Nat) : Int)).toNat + 1 ≤ ((k : Nat) : Int).toNat
    omega
theorem c_WText (b : Nat) (v : Sl) (bs : List UInt8) (s : ByteArray) (hs : s.size ≤ 140737488354900) (hl : bs.length + s.size ≤ 140737488354900) : Ctr Try.prog 56 #[.pointer (some ⟨b, 0, none⟩), .string s] noMem (wA b v bs) (fun _ : Sl => .tuple #[]) (fun _ _ => True) (fun v' => wA b v' (bs ++ (putU s.size ++ s.data.toList))) := by
  refine Ctr.mk fun w F m C _ => x_WText _ _ w _ ?_
  rw [w_u64 (by omega) (by omega)]
  have h10 := putU_10 (n := s.size) (by omega)
  refine (c_WU b v bs s.size (by omega) (by omega)).call (As := []) C trivial fun v' m1 w2 hk hm _ C => ⟨rfl, hk.size, ?_⟩
  refine ⟨v'.1, (bs ++ putU s.size).length, v'.2, C.blkCell (j := 0) rfl, ?_⟩
  have D : Ctx F m w w2 [] m1 [slA (slV v' (bs ++ putU s.size).length) (bs ++ putU s.size).length (byV (bs ++ putU s.size)) 5 1, blk b [slV v' (bs ++ putU s.size).length] 119] := Ctx.pm C [1, 0] rfl
  have hlen : (bs ++ putU s.size).length + s.size ≤ 140737488355000 := by rw [List.length_append]; omega
  generalize hp : bs ++ putU s.size = pre at D hlen
  obtain ⟨q2, c2, w7, hr, hkk, D2⟩ := D.app2 (P := Try.prog) (bytes := 1) (t := 66) (t2 := 9) 66 (by kernel_rfl) (.str s rfl) (by unfold maxLen; omega) (by omega) (byV_one _)
  have D3 : Ctx F m w w7 [] m1 [blk b [slV v' pre.length] 119, slA (.slice q2 (pre.length + s.size) c2) (pre.length + s.size) (byV pre ++ byV s.data.toList) 5 1] := Ctx.pm D2 [1, 0] rfl
  refine ⟨q2, pre.length + s.size, c2, w7, hr, hkk.size, rfl, D3.there 0 1 (Nat.le_refl 1), ?_⟩
  refine Ctr.ret (m' := m1) (L := []) (q2, c2) rfl trivial ?_
  have D4 := D3.store 0 [.slice q2 (pre.length + s.size) c2] (Nat.le_refl 1)
  have e2 : (pre ++ s.data.toList).length = pre.length + s.size := by rw [List.length_append]; rfl
  rw [wA, ← List.append_assoc, hp, byV_append, e2]
  exact D4
/-- all that was written, as a slice of its own -/
theorem c_WBytes (b : Nat) (v : Sl) (bs : List UInt8) (hl : bs.length ≤ 140737488355200) : Ctr Try.prog 58 #[.pointer (some ⟨b, 0, none⟩)] noMem (wA b v bs) (fun q : Sl => slV q bs.length) (fun _ _ => True) (fun q => slA (slV q bs.length) bs.length (byV bs) 5 1 :: wA b v bs) := by
  refine Ctr.mk fun w F m C _ => x_WBytes _ w _ ⟨v.1, bs.length, v.2, C.blkCell (j := 0) rfl, ?_⟩
  have D : Ctx F m w w [] m (slA (.slice none 0 0) 0 [] 5 1 :: wA b v bs) := C.slNil
  have D0 : Ctx F m w w [] m [slA (slV v bs.length) bs.length (byV bs) 5 1, blk b [slV v bs.length] 119] := Ctx.pm C [1, 0] rfl
  obtain ⟨q2, c2, w7, hr, hkk, D2⟩ := D.app2 (P := Try.prog) (bytes := 1) (t := 66) (t2 := 66) 66 (by kernel_rfl) D0.slSrc (by unfold maxLen; omega) (by omega) (byV_one _)
  rw [Nat.zero_add] at hr D2
  exact ⟨q2, bs.length, c2, w7, hr, hkk.size, Ctr.ret (m' := m) (L := []) (q2, c2) rfl trivial D2⟩
def u8 (n : Int) : UInt8 := UInt8.ofNat n.toNat
theorem u8I {n : Int} (h : 0 ≤ n ∧ n < 256) : ((u8 n).toNat : Int) = n := by rw [u8, u8_nat (by omega)]; omega
theorem natI {n : Int} (h : 0 ≤ n) : ((n.toNat : Nat) : Int) = n := by omega
def flagB (b : Bool) : UInt8 := if b then 1 else 0
theorem c_Wflag (b : Nat) (v : Sl) (bs : List UInt8) (f : Bool) (hl : bs.length ≤ 140737488355000) : Ctr Try.prog 55 #[.pointer (some ⟨b, 0, none⟩), .bool f] noMem (wA b v bs) (fun _ : Sl => .tuple #[]) (fun _ _ => True) (fun v' => wA b v' (bs ++ [flagB f])) := by
  refine Ctr.mk fun w F m C _ => x_Wflag _ _ w _ ?_
  cases f with
  | true =>
    rw [if_pos rfl]
    exact (c_WB b v bs 1 (by omega)).call (As := []) C trivial fun v' m1 w2 hk hm _ C => ⟨rfl, hk.size, Ctr.ret (L := _) v' rfl trivial C⟩
  | false =>
    rw [if_neg (by decide)]
    exact (c_WB b v bs 0 (by omega)).call (As := []) C trivial fun v' m1 w2 hk hm _ C => ⟨rfl, hk.size, Ctr.ret (L := _) v' rfl trivial C⟩
def putP (n l : Int) : List UInt8 := u8 n :: putU l.toNat
theorem c_PutProc (b : Nat) (v : Sl) (bs : List UInt8) (n l : Int) (hn : 0 ≤ n ∧ n < 256) (hl : 0 ≤ l ∧ l < 65536) (hb : bs.length ≤ 140737488354000) : Ctr Try.prog 53 #[.pointer (some ⟨b, 0, none⟩), PV n l] noMem (wA b v bs) (fun _ : Sl => .tuple #[]) (fun _ _ => True) (fun v' => wA b v' (bs ++ putP n l)) := by
  refine Ctr.mk fun w F m C _ => x_PutProc _ _ _ w _ fun w1 L2 h1 g1 => ?_
  have e1 : Value.int .u8 n = .int .u8 ((u8 n).toNat : Int) := by rw [u8I hn]
  have e2 : Value.int .u64 (IntKind.wrap .u64 l) = .int .u64 (l.toNat : Int) := by rw [w_u64 (by omega) (by omega), natI hl.1]
  rw [e1]
  refine (c_WB b v bs (u8 n) (by omega)).call (As := []) (C.hidL h1 g1) trivial fun v' m1 w2 hk hm _ C => ⟨rfl, hk, ?_⟩
  rw [e2]
  refine (c_WU b v' (bs ++ [u8 n]) l.toNat (by omega) (by rw [List.length_append]; simp; omega)).call (As := []) C trivial fun v2 m2 w3 hk hm2 _ C => ⟨rfl, hk, Ctr.ret (m' := m2) (L := L2) v2 rfl trivial ?_⟩
  rw [List.append_assoc] at C
  exact C
theorem c_Wround (b : Nat) (v : Sl) (bs : List UInt8) (x : Mg) (hi : MvIn x.er) (hb : bs.length ≤ 9000000) (h32 : x.nn < 4294967296) : Ctr Try.prog 110 #[.pointer (some ⟨b, 0, none⟩), .agg x.row.toArray] noMem (wA b v bs) (fun _ : Sl => .tuple #[]) (fun _ _ => True) (fun v' => wA b v' (bs ++ ([u8 x.gr] ++ putU x.nn.toNat ++ putU x.ba.toNat))) := by
  refine Ctr.mk fun w F m C _ => x_Wround _ _ _ _ _ _ _ _ _ _ _ _ _ _ _ _ _ _ _ _ _ _ _ _ _ _ _ _ _ _ _ _ _ _ _ _ _ _ _ _ _ _ w _ ⟨[], facts_nil _ _, fun w1 L2 h1 g1 => ?_⟩
  have hgr : 0 ≤ x.gr ∧ x.gr < 256 := hi.gr
  have hnn : 0 ≤ x.nn ∧ x.nn < 18446744073709551616 := hi.nn
  have hba : 0 ≤ x.ba ∧ x.ba < 18446744073709551616 := hi.ba
  have l1 := putU_10 (n := x.nn.toNat) (by omega)
  have e1 : Value.int .u8 x.gr = .int .u8 ((u8 x.gr).toNat : Int) := by rw [u8I hgr]
  have e2 : Value.int .u64 (IntKind.wrap .u64 x.nn) = .int .u64 (x.nn.toNat : Int) := by rw [w_u64 (by omega) (by omega), natI hnn.1]
  have e3 : Value.int .u64 x.ba = .int .u64 (x.ba.toNat : Int) := by rw [natI hba.1]
  rw [e1]
  refine (c_WB b v bs (u8 x.gr) (by omega)).call (As := []) (C.hidL h1 g1) trivial fun v' m1 w2 hk hm _ C => ⟨rfl, hk, [], facts_nil _ _, fun w3 L3 h3 g3 => ?_⟩
  rw [e2]
  refine (c_WU b v' (bs ++ [u8 x.gr]) x.nn.toNat (by omega) (by rw [List.length_append]; simp; omega)).call (As := []) (C.hidL h3 g3) trivial fun v2 m2 w3 hk hm2 _ C => ⟨rfl, hk, facts_nil _ _, [], facts_nil _ _, fun w4 L4 h4 g4 => ?_⟩
  rw [e3]
  refine (c_WU b v2 (bs ++ [u8 x.gr] ++ putU x.nn.toNat) x.ba.toNat (by omega) (by rw [List.length_append, List.length_append]; simp; omega)).call (As := []) (C.hidL h4 g4) trivial fun v3 m3 w5 hk hm3 _ C => ⟨rfl, hk, Ctr.ret (m' := m3) (L := L4) v3 rfl trivial ?_⟩
  have e : bs ++ ([u8 x.gr] ++ putU x.nn.toNat ++ putU x.ba.toNat) = bs ++ [u8 x.gr] ++ putU x.nn.toNat ++ putU x.ba.toNat := by simp
  rw [e]; exact C
theorem c_num (n : Int) : Gives Try.prog 23 #[.int .i64 n] (.int .i64 n) := fun w => x_num _ w _ ⟨rfl, below_refl _ _⟩
def wordL (k : Int) : List UInt8 :=
  if k = 0 then [65, 115, 107]
  else if k = 1 then [65, 110, 115, 119, 101, 114]
  else if k = 2 then [82, 101, 102, 117, 115, 101]
  else if k = 3 then [65, 112, 112, 101, 110, 100]
  else if k = 4 then [65, 99, 107, 101, 100]
  else if k = 5 then [80, 114, 101, 112, 97, 114, 101]
  else if k = 6 then [65, 99, 99, 101, 112, 116]
  else if k = 7 then [78, 97, 99, 107]
  else if k = 8 then [80, 114, 111, 109, 105, 115, 101]
  else if k = 9 then [80, 114, 111, 112, 111, 115, 101]
  else if k = 10 then [73, 110, 115, 116, 97, 108, 108]
  else if k = 11 then [74, 111, 105, 110]
  else if k = 12 then [76, 101, 97, 118, 101]
  else if k = 13 then [83, 108, 97, 121]
  else []
theorem wordL0 {k : Int} (h : k = 0) : wordL k = [65, 115, 107] := by rw [wordL, if_pos h]
theorem wordL1 {k : Int} (h : k = 1) : wordL k = [65, 110, 115, 119, 101, 114] := by rw [wordL, if_neg (by omega), if_pos h]
theorem wordL2 {k : Int} (h : k = 2) : wordL k = [82, 101, 102, 117, 115, 101] := by rw [wordL, if_neg (by omega), if_neg (by omega), if_pos h]
theorem wordL3 {k : Int} (h : k = 3) : wordL k = [65, 112, 112, 101, 110, 100] := by rw [wordL, if_neg (by omega), if_neg (by omega), if_neg (by omega), if_pos h]
theorem wordL4 {k : Int} (h : k = 4) : wordL k = [65, 99, 107, 101, 100] := by rw [wordL, if_neg (by omega), if_neg (by omega), if_neg (by omega), if_neg (by omega), if_pos h]
theorem wordL5 {k : Int} (h : k = 5) : wordL k = [80, 114, 101, 112, 97, 114, 101] := by rw [wordL, if_neg (by omega), if_neg (by omega), if_neg (by omega), if_neg (by omega), if_neg (by omega), if_pos h]
theorem wordL6 {k : Int} (h : k = 6) : wordL k = [65, 99, 99, 101, 112, 116] := by rw [wordL, if_neg (by omega), if_neg (by omega), if_neg (by omega), if_neg (by omega), if_neg (by omega), if_neg (by omega), if_pos h]
theorem wordL7 {k : Int} (h : k = 7) : wordL k = [78, 97, 99, 107] := by rw [wordL, if_neg (by omega), if_neg (by omega), if_neg (by omega), if_neg (by omega), if_neg (by omega), if_neg (by omega), if_neg (by omega), if_pos h]
theorem wordL8 {k : Int} (h : k = 8) : wordL k = [80, 114, 111, 109, 105, 115, 101] := by rw [wordL, if_neg (by omega), if_neg (by omega), if_neg (by omega), if_neg (by omega), if_neg (by omega), if_neg (by omega), if_neg (by omega), if_neg (by omega), if_pos h]
theorem wordL9 {k : Int} (h : k = 9) : wordL k = [80, 114, 111, 112, 111, 115, 101] := by rw [wordL, if_neg (by omega), if_neg (by omega), if_neg (by omega), if_neg (by omega), if_neg (by omega), if_neg (by omega), if_neg (by omega), if_neg (by omega), if_neg (by omega), if_pos h]
theorem wordL10 {k : Int} (h : k = 10) : wordL k = [73, 110, 115, 116, 97, 108, 108] := by rw [wordL, if_neg (by omega), if_neg (by omega), if_neg (by omega), if_neg (by omega), if_neg (by omega), if_neg (by omega), if_neg (by omega), if_neg (by omega), if_neg (by omega), if_neg (by omega), if_pos h]
theorem wordL11 {k : Int} (h : k = 11) : wordL k = [74, 111, 105, 110] := by rw [wordL, if_neg (by omega), if_neg (by omega), if_neg (by omega), if_neg (by omega), if_neg (by omega), if_neg (by omega), if_neg (by omega), if_neg (by omega), if_neg (by omega), if_neg (by omega), if_neg (by omega), if_pos h]
theorem wordL12 {k : Int} (h : k = 12) : wordL k = [76, 101, 97, 118, 101] := by rw [wordL, if_neg (by omega), if_neg (by omega), if_neg (by omega), if_neg (by omega), if_neg (by omega), if_neg (by omega), if_neg (by omega), if_neg (by omega), if_neg (by omega), if_neg (by omega), if_neg (by omega), if_neg (by omega), if_pos h]
theorem wordL13 {k : Int} (h : k = 13) : wordL k = [83, 108, 97, 121] := by rw [wordL, if_neg (by omega), if_neg (by omega), if_neg (by omega), if_neg (by omega), if_neg (by omega), if_neg (by omega), if_neg (by omega), if_neg (by omega), if_neg (by omega), if_neg (by omega), if_neg (by omega), if_neg (by omega), if_neg (by omega), if_pos h]
theorem wordLo {k : Int} (h : ¬ (0 ≤ k ∧ k ≤ 13)) : wordL k = [] := by rw [wordL, if_neg (by omega), if_neg (by omega), if_neg (by omega), if_neg (by omega), if_neg (by omega), if_neg (by omega), if_neg (by omega), if_neg (by omega), if_neg (by omega), if_neg (by omega), if_neg (by omega), if_neg (by omega), if_neg (by omega), if_neg (by omega)]
theorem c_Word (k : Int) (h0 : 0 ≤ k ∧ k < 256) : Gives Try.prog 14 #[.int .u8 k] (.string (toBA (wordL k))) := by
  intro w
  refine x_Word _ w _ ?_
  rw [w_i64 (n := k) (by omega) (by omega)]
  by_cases hk : k ≥ 14
  · rw [if_pos (by simpa using hk), wordLo (by omega)]
    exact fun w1 h1 => ⟨rfl, hid_below h1 (by simp) (Nat.le_refl _)⟩
  · rw [if_neg (by simpa using hk)]
    refine ⟨by omega, by omega, ?_⟩
    repeat' apply And.intro
    all_goals intro h w1 h1
    all_goals refine ⟨?_, hid_below h1 (by simp) (Nat.le_refl _)⟩
    all_goals (subst h; rfl)
abbrev wordT : List Value := [.string (ByteArray.mk #[OfNat.ofNat 65, OfNat.ofNat 115, OfNat.ofNat 107]), .string (ByteArray.mk #[OfNat.ofNat 65, OfNat.ofNat 110, OfNat.ofNat 115, OfNat.ofNat 119, OfNat.ofNat 101, OfNat.ofNat 114]), .string (ByteArray.mk #[OfNat.ofNat 82, OfNat.ofNat 101, OfNat.ofNat 102, OfNat.ofNat 117, OfNat.ofNat 115, OfNat.ofNat 101]), .string (ByteArray.mk #[OfNat.ofNat 65, OfNat.ofNat 112, OfNat.ofNat 112, OfNat.ofNat 101, OfNat.ofNat 110, OfNat.ofNat 100]), .string (ByteArray.mk #[OfNat.ofNat 65, OfNat.ofNat 99, OfNat.ofNat 107, OfNat.ofNat 101, OfNat.ofNat 100]), .string (ByteArray.mk #[OfNat.ofNat 80, OfNat.ofNat 114, OfNat.ofNat 101, OfNat.ofNat 112, OfNat.ofNat 97, OfNat.ofNat 114, OfNat.ofNat 101]), .string (ByteArray.mk #[OfNat.ofNat 65, OfNat.ofNat 99, OfNat.ofNat 99, OfNat.ofNat 101, OfNat.ofNat 112, OfNat.ofNat 116]), .string (ByteArray.mk #[OfNat.ofNat 78, OfNat.ofNat 97, OfNat.ofNat 99, OfNat.ofNat 107]), .string (ByteArray.mk #[OfNat.ofNat 80, OfNat.ofNat 114, OfNat.ofNat 111, OfNat.ofNat 109, OfNat.ofNat 105, OfNat.ofNat 115, OfNat.ofNat 101]), .string (ByteArray.mk #[OfNat.ofNat 80, OfNat.ofNat 114, OfNat.ofNat 111, OfNat.ofNat 112, OfNat.ofNat 111, OfNat.ofNat 115, OfNat.ofNat 101]), .string (ByteArray.mk #[OfNat.ofNat 73, OfNat.ofNat 110, OfNat.ofNat 115, OfNat.ofNat 116, OfNat.ofNat 97, OfNat.ofNat 108, OfNat.ofNat 108]), .string (ByteArray.mk #[OfNat.ofNat 74, OfNat.ofNat 111, OfNat.ofNat 105, OfNat.ofNat 110]), .string (ByteArray.mk #[OfNat.ofNat 76, OfNat.ofNat 101, OfNat.ofNat 97, OfNat.ofNat 118, OfNat.ofNat 101]), .string (ByteArray.mk #[OfNat.ofNat 83, OfNat.ofNat 108, OfNat.ofNat 97, OfNat.ofNat 121])]
theorem c_rWord (k : Int) (h0 : 0 ≤ k ∧ k < 256) : Gives Try.prog 15 #[.int .u8 k] (.string (toBA (wordL k))) := by
  intro w
  refine x_rWord _ w _ ?_
  have C := (lawStart w).alloc wordT 9
  rw [w_i64 (n := k) (by omega) (by omega)]
  by_cases hk : k ≥ 14
  · rw [if_pos (by simpa using hk), wordLo (by omega)]
    exact ⟨rfl, ctx_bel0 C⟩
  · rw [if_neg (by simpa using hk)]
    have hk' : k = 0 ∨ k = 1 ∨ k = 2 ∨ k = 3 ∨ k = 4 ∨ k = 5 ∨ k = 6 ∨ k = 7 ∨ k = 8 ∨ k = 9 ∨ k = 10 ∨ k = 11 ∨ k = 12 ∨ k = 13 := by omega
    rcases hk' with rfl | rfl | rfl | rfl | rfl | rfl | rfl | rfl | rfl | rfl | rfl | rfl | rfl | rfl
    · refine ⟨by omega, by omega, toBA (wordL 0), ?_, rfl, ctx_bel0 C⟩
      rw [wordL0 rfl]
      exact C.blkCell (j := 0) rfl
    · refine ⟨by omega, by omega, toBA (wordL 1), ?_, rfl, ctx_bel0 C⟩
      rw [wordL1 rfl]
      exact C.blkCell (j := 1) rfl
    · refine ⟨by omega, by omega, toBA (wordL 2), ?_, rfl, ctx_bel0 C⟩
      rw [wordL2 rfl]
      exact C.blkCell (j := 2) rfl
    · refine ⟨by omega, by omega, toBA (wordL 3), ?_, rfl, ctx_bel0 C⟩
      rw [wordL3 rfl]
      exact C.blkCell (j := 3) rfl
    · refine ⟨by omega, by omega, toBA (wordL 4), ?_, rfl, ctx_bel0 C⟩
      rw [wordL4 rfl]
      exact C.blkCell (j := 4) rfl
    · refine ⟨by omega, by omega, toBA (wordL 5), ?_, rfl, ctx_bel0 C⟩
      rw [wordL5 rfl]
      exact C.blkCell (j := 5) rfl
    · refine ⟨by omega, by omega, toBA (wordL 6), ?_, rfl, ctx_bel0 C⟩
      rw [wordL6 rfl]
      exact C.blkCell (j := 6) rfl
    · refine ⟨by omega, by omega, toBA (wordL 7), ?_, rfl, ctx_bel0 C⟩
      rw [wordL7 rfl]
      exact C.blkCell (j := 7) rfl
    · refine ⟨by omega, by omega, toBA (wordL 8), ?_, rfl, ctx_bel0 C⟩
      rw [wordL8 rfl]
      exact C.blkCell (j := 8) rfl
    · refine ⟨by omega, by omega, toBA (wordL 9), ?_, rfl, ctx_bel0 C⟩
      rw [wordL9 rfl]
      exact C.blkCell (j := 9) rfl
    · refine ⟨by omega, by omega, toBA (wordL 10), ?_, rfl, ctx_bel0 C⟩
      rw [wordL10 rfl]
      exact C.blkCell (j := 10) rfl
    · refine ⟨by omega, by omega, toBA (wordL 11), ?_, rfl, ctx_bel0 C⟩
      rw [wordL11 rfl]
      exact C.blkCell (j := 11) rfl
    · refine ⟨by omega, by omega, toBA (wordL 12), ?_, rfl, ctx_bel0 C⟩
      rw [wordL12 rfl]
      exact C.blkCell (j := 12) rfl
    · refine ⟨by omega, by omega, toBA (wordL 13), ?_, rfl, ctx_bel0 C⟩
      rw [wordL13 rfl]
      exact C.blkCell (j := 13) rfl
end Go.Proofs
namespace Go.Proofs
open Go X RowKit
theorem c_Wmsg6 (b : Nat) (v : Sl) (bs : List UInt8) (x : Mg) (hk : x.kd = 6) (hi : MvIn x.er) (hb : bs.length ≤ 9000000) (h32 : x.nn < 4294967296) : Ctr Try.prog 80 #[.pointer (some ⟨b, 0, none⟩), .agg x.row.toArray] noMem (wA b v bs) (fun _ : Sl => .tuple #[]) (fun _ _ => True) (fun v' => wA b v' (bs ++ ([u8 x.gr] ++ putU x.nn.toNat ++ putU x.ba.toNat))) := by
  have cR := c_Wround b v bs x hi hb h32
  clear hi h32
  obtain ⟨kd, gr, co, nn, fr, cm, fl, ba, ac, id, pq, ps, rc, rv, vg, vn, vq, vm, pn, pl, has, mq, ms, eq, es, tq, ts⟩ := x
  replace hk : kd = 6 := hk
  subst hk
  refine Ctr.mk fun w F m C _ => x_Wmsg _ _ _ _ _ _ _ _ _ _ _ _ _ _ _ _ _ _ _ _ _ _ _ _ _ _ _ _ _ _ _ _ _ _ _ _ _ _ _ _ _ _ w _ ?_
  dsimp only
  repeat (first | rw [if_pos (by decide)] | rw [if_neg (by decide)])
  intro w1 L2 h1 g1
  exact cR.call (As := []) (C.hidL h1 g1) trivial fun v' m1 w2 hk hm _ C => ⟨rfl, hk, Ctr.ret (m' := m1) (L := L2) v' rfl trivial C⟩
def kMsg : Mg := ⟨6, 1, 0, 2, 0, 0, 0, 300, 0, I.zero, (none, 0), [], 0, ByteArray.mk #[], 0, 0, (none, 0), [], 0, 0, false, (none, 0), [], (none, 0), [], (none, 0), []⟩
theorem kM (m : Mem) : MgM m kMsg := ⟨.nil .., .nil .., .nil .., esNil m, esNil m, by decide, by decide, by decide, by decide, by decide⟩
theorem kI : I.zero.In := by constructor <;> exact ⟨by decide, by decide⟩
theorem kIn : MvIn kMsg.er := by
  constructor
  · exact kI
  all_goals first | (intro p hp; cases hp) | exact ⟨by decide, by decide⟩ | decide
theorem k_right : kMsg.er.right = true := by decide +kernel
def kB : List UInt8 := [6, 1, 2, 172, 2]
theorem kB_eq : [(6 : UInt8)] ++ ([u8 1] ++ putU 2 ++ putU 300) = kB := by
  have e1 : putU 2 = [2] := by rw [putU_lt (by decide)]; rfl
  have e2 : putU 300 = [172, 2] := by rw [putU_ge (by decide), putU_lt (by decide)]; rfl
  rw [e1, e2]; rfl
theorem c_BytesK : Ctr Try.prog 26 #[.agg kMsg.row.toArray] noMem [] (fun q : Sl => .tuple #[slV q kB.length, .int .i64 0]) (fun q m => MSrc m 1 (slV q kB.length) kB.length (byV kB)) (fun _ => []) := by
  refine Ctr.mk fun w F m C _ => x_Bytes _ _ _ _ _ _ _ _ _ _ _ _ _ _ _ _ _ _ _ _ _ _ _ _ _ _ _ _ _ _ _ _ _ _ _ _ _ _ _ _ _ w _ fun w1 L2 h1 g1 => ?_
  refine (c_mRight kMsg kIn).call (As := []) (C.hidL h1 g1) (kM m) fun _ m1 w4 hk hm _ C => ⟨_, rfl, hk, ?_⟩
  rw [k_right, if_neg (by decide)]
  have D : Ctx F m w (w4.alloc (.cells #[.slice none 0 0] 119)) L2 m1 (wA w4.heap.size (none, 0) []) := Ctx.pm (C.alloc [.slice none 0 0] 119).slNil [1, 0] rfl
  refine ⟨[], facts_nil _ _, fun w7 L8 h7 g7 => ?_⟩
  refine (c_WB w4.heap.size (none, 0) [] 6 (by decide)).call (As := []) (D.hidL h7 g7) trivial fun v2 m2 w10 hk hm2 _ C => ⟨rfl, hk, ?_⟩
  refine (c_Wmsg6 w4.heap.size v2 [6] kMsg rfl kIn (by decide) (by decide)).call (As := []) C trivial fun v3 m3 w12 hk hm3 _ C => ⟨rfl, hk, ?_⟩
  have e : [(6 : UInt8)] ++ ([u8 kMsg.gr] ++ putU kMsg.nn.toNat ++ putU kMsg.ba.toNat) = kB := kB_eq
  rw [e] at C
  refine (c_WBytes w4.heap.size v3 kB (by decide)).call (As := []) C trivial fun q m4 w14 hk hm4 _ C => ⟨_, _, _, rfl, hk, ?_⟩
  obtain ⟨m5, hm5, hs, C⟩ := C.slShare
  exact Ctr.ret (m' := m5) (L := []) q rfl hs (C.noL.sub fun F _ _ => ⟨[], rfl, by simp⟩)
theorem g_knows : Gives Try.prog 8 #[] (.bool true) := by
  intro w
  refine x_knows w _ ?_
  refine c_BytesK.call (As := []) (lawStart w) trivial fun q m1 w2 hk hm hq C => ⟨_, _, _, _, rfl, hk.size, ?_⟩
  refine C.gives (c_num 0) fun w8 k8 C => ⟨_, rfl, k8.size, ?_⟩
  rw [if_pos (by decide)]
  refine ⟨_, _, run_str (P := Try.prog) (e := 5) Try.underlying66 Try.underlying5 Try.underlying9 (C.src hq) ⟨_, _, rfl⟩, Nat.le_refl _, ?_⟩
  have ht : ((toBA kB).toList == (ByteArray.mk #[OfNat.ofNat 6, OfNat.ofNat 1, OfNat.ofNat 2, OfNat.ofNat 172, OfNat.ofNat 2]).toList) = true := beq_self_eq_true (toBA kB).toList
  rw [ht, if_pos (by decide)]
  refine C.gives (c_Word 6 (by decide)) fun w13 k13 C => ⟨_, rfl, k13.size, ?_, ctx_bel0 C⟩
  have hw : ((toBA (wordL 6)).toList == (ByteArray.mk #[OfNat.ofNat 65, OfNat.ofNat 99, OfNat.ofNat 99, OfNat.ofNat 101, OfNat.ofNat 112, OfNat.ofNat 116]).toList) = true := by
    rw [wordL6 rfl]; exact beq_self_eq_true (toBA [65, 99, 99, 101, 112, 116]).toList
  rw [hw]; rfl
end Go.Proofs
namespace Go.Proofs
open Go X RowKit
theorem mk_M {m : Mem} {x : Mg} (h : MgM0 m x) (l : x.lt) : MgM m x :=
  ⟨h.p, h.v, h.mm, ⟨h.e.1, fun e he => ⟨(h.e.2 e he).p, (h.e.2 e he).w, by have := (l.e.2 e he).1; omega, by have := (l.e.2 e he).2; omega⟩⟩, ⟨h.t.1, fun e he => ⟨(h.t.2 e he).p, (h.t.2 e he).w, by have := (l.t.2 e he).1; omega, by have := (l.t.2 e he).2; omega⟩⟩, h.pl, by have := l.v; omega, by have := l.m; omega, by have := l.e.1; omega, by have := l.t.1; omega⟩
/-- WireRights -/
theorem l_WireRights (w : World) (a b : Mg) (hA : MgM0 (memOf w) a) (hB : MgM0 (memOf w) b) (hia : MvIn a.er) (hib : MvIn b.er) : Calls Try.prog 3 #[.agg a.row.toArray, .agg b.row.toArray] w (LawR w) := by
  refine x_WireRights _ _ _ _ _ _ _ _ _ _ _ _ _ _ _ _ _ _ _ _ _ _ _ _ _ _ _ _ _ _ _ _ _ _ _ _ _ _ _ _ _ _ _ _ _ _ _ _ _ _ _ _ _ _ _ _ _ _ _ _ _ _ _ _ _ _ _ _ _ _ _ _ _ _ _ _ _ _ _ _ _ _ w _ fun w1 L2 h1 g1 => ?_
  refine (c_Light7 a).call (As := []) ((lawStart w).hidL h1 g1) hA fun b1 m1 w4 hk hm1 hb1 C => ⟨b1, rfl, hk, ?_⟩
  cases b1 with
  | false =>
    rw [if_neg (by decide)]
    exact C.gives g_knows fun w7 k7 C => ⟨_, rfl, k7, rfl, Ctx.at_ C⟩
  | true =>
  rw [if_pos (by decide)]
  refine (c_Light7 b).call (As := []) C (hB.mono hm1) fun b2 m2 w10 hk hm2 hb2 C => ⟨b2, rfl, hk, ?_⟩
  cases b2 with
  | false =>
    rw [if_pos (by decide)]
    exact C.gives g_knows fun w7 k7 C => ⟨_, rfl, k7, rfl, Ctx.at_ C⟩
  | true =>
  rw [if_neg (by decide)]
  have mA := mk_M ((hA.mono hm1).mono hm2) (hb1 rfl)
  have mB := mk_M ((hB.mono hm1).mono hm2) (hb2 rfl)
  clear hA hB
  refine ⟨[], facts_nil _ _, fun w13 L14 h13 g13 => ?_⟩
  refine (c_OwnM a).call (As := []) (C.hidL h13 g13) mA fun y m3 w16 hk hm3 hy C => ⟨_, _, _, _, _, _, _, _, _, _, _, _, _, _, _, _, _, _, _, _, _, _, _, _, _, _, _, _, _, _, _, _, _, _, _, _, _, _, _, _, _, rfl, hk, facts_nil _ _, [], facts_nil _ _, (fun _ h => h), ?_⟩
  refine (c_mRight y (by rw [hy.2]; exact hia)).call (As := []) C hy.1 fun _ m4 w61 hk hm4 _ C => ⟨_, rfl, hk, facts_nil _ _, [], facts_nil _ _, (fun _ h => h), ?_⟩
  replace mA := (mA.mono hm3).mono hm4
  replace mB := (mB.mono hm3).mono hm4
  refine (c_r7Right a hia).call (As := []) C mA fun _ m5 w66 hk hm5 _ C => ⟨_, rfl, hk, facts_nil _ _, [], facts_nil _ _, (fun _ h => h), ?_⟩
  replace mA := mA.mono hm5
  replace mB := mB.mono hm5
  rw [hy.2, if_pos (by simp)]
  refine (c_OwnM a).call (As := []) C mA fun y1 m6 w85 hk hm6 hy1 C => ⟨_, _, _, _, _, _, _, _, _, _, _, _, _, _, _, _, _, _, _, _, _, _, _, _, _, _, _, _, _, _, _, _, _, _, _, _, _, _, _, _, _, rfl, hk, facts_nil _ _, [], facts_nil _ _, (fun _ h => h), ?_⟩
  refine (c_OwnM b).call (As := []) C (mB.mono hm6) fun y2 m7 w130 hk hm7 hy2 C => ⟨_, _, _, _, _, _, _, _, _, _, _, _, _, _, _, _, _, _, _, _, _, _, _, _, _, _, _, _, _, _, _, _, _, _, _, _, _, _, _, _, _, rfl, hk, facts_nil _ _, [], facts_nil _ _, (fun _ h => h), ?_⟩
  refine (c_mSame y1 y2).call (As := []) C ⟨hy1.1.mono hm7, hy2.1⟩ fun _ m8 w175 hk hm8 _ C => ⟨_, rfl, hk, facts_nil _ _, [], facts_nil _ _, (fun _ h => h), ?_⟩
  replace mA := ((mA.mono hm6).mono hm7).mono hm8
  replace mB := ((mB.mono hm6).mono hm7).mono hm8
  refine (c_r7Same a b).call (As := []) C ⟨mA, mB⟩ fun _ m9 w180 hk hm9 _ C => ⟨_, rfl, hk, facts_nil _ _, [], facts_nil _ _, (fun _ h => h), ?_⟩
  rw [hy1.2, hy2.2, if_pos (by simp)]
  replace mA := mA.mono hm9
  refine (c_OwnM a).call (As := []) C mA fun y3 m10 w191 hk hm10 hy3 C => ⟨_, _, _, _, _, _, _, _, _, _, _, _, _, _, _, _, _, _, _, _, _, _, _, _, _, _, _, _, _, _, _, _, _, _, _, _, _, _, _, _, _, rfl, hk, facts_nil _ _, [], facts_nil _ _, (fun _ h => h), ?_⟩
  refine (c_OwnM a).call (As := []) C (mA.mono hm10) fun y4 m11 w236 hk hm11 hy4 C => ⟨_, _, _, _, _, _, _, _, _, _, _, _, _, _, _, _, _, _, _, _, _, _, _, _, _, _, _, _, _, _, _, _, _, _, _, _, _, _, _, _, _, rfl, hk, facts_nil _ _, [], facts_nil _ _, (fun _ h => h), ?_⟩
  refine (c_mSame y3 y4).call (As := []) C ⟨hy3.1.mono hm11, hy4.1⟩ fun _ m12 w281 hk hm12 _ C => ⟨_, rfl, hk, facts_nil _ _, [], facts_nil _ _, (fun _ h => h), ?_⟩
  rw [hy3.2, hy4.2, if_pos (by simp)]
  refine C.gives (c_Word a.kd hia.kd) fun w286 k286 C => ⟨_, rfl, k286, facts_nil _ _, ?_⟩
  refine C.gives (c_rWord a.kd hia.kd) fun w289 k289 C => ⟨_, rfl, k289, facts_nil _ _, ?_⟩
  rw [if_pos (by simp)]
  exact C.gives g_knows fun w292 k292 C => ⟨_, rfl, k292, facts_nil _ _, rfl, Ctx.at_ C⟩
theorem msrc_take {m : Mem} {sz : Nat} {q : Option Addr} {n c : Nat} {cs : List Value} (h : MSrc m sz (.slice q n c) n cs) (k c2 : Nat) (hk : k ≤ n) : MSrc m sz (.slice q k c2) k (cs.take (k * sz)) := by
  have hl := h.len
  have hle : k * sz ≤ n * sz := Nat.mul_le_mul_right _ hk
  cases q with
  | none =>
    obtain ⟨h0, h1⟩ := h.none_len
    have : k = 0 := by omega
    subst this; subst h1
    rw [List.take_nil]; exact .nil ..
  | some a =>
    refine MSrc.mk (by rw [List.length_take]; omega) (fun a' ha => ?_) (fun h => by cases h)
    injection ha with ha; subst ha
    intro j u hj
    have hjl := (List.getElem?_eq_some_iff.1 hj).1
    rw [List.length_take] at hjl
    rw [List.getElem?_take_of_lt (by omega)] at hj
    cases h with
    | nil => simp at hj
    | row _ _ _ _ h0 h1 h2 => exact h2 j u hj
/-- WireBounds -/
theorem l_WireBounds (w : World) (e : En) (g f d : Int) (hM : EnM0 (memOf w) e) (hi : EvIn e.er) (hg : 0 ≤ g ∧ g < 256) (hf : 0 ≤ f ∧ f < 4294967296) (hd : -9223372036854775808 ≤ d ∧ d < 9223372036854775808) : Calls Try.prog 4 #[.agg e.row.toArray, .int .u8 g, .int .u32 f, .int .i64 d] w (LawR w) := by
  refine x_WireBounds _ _ _ _ _ _ _ _ _ _ _ _ _ _ _ _ _ _ _ _ _ _ _ _ _ w _ fun w1 L2 h1 g1 => ?_
  obtain ⟨C, hmm⟩ := ((lawStart w).hidL h1 g1).newShare e.row 62 (0, 0)
  have hsrc : MSrc ((memOf w).plus w1.heap.size e.row) 18 (.slice (some ⟨w1.heap.size, 0, none⟩) 1 1) 1 ([e].flatMap En.row) := by
    have : [e].flatMap En.row = e.row := by simp
    rw [this]
    exact MSrc.mk rfl (fun a ha => by injection ha with ha; subst ha; exact Mem.plus_cells _ _ _ _ _ fun j v hj => by rw [Nat.zero_add]; exact hj) (fun h => by cases h)
  refine (c_Light5 (some ⟨w1.heap.size, 0, none⟩, 1) [e]).call (As := []) C ⟨hsrc, fun e' he' => (show e' = e by simpa using he') ▸ hM.mono hmm⟩ fun b m1 w4 hk hm1 hb C => ⟨b, rfl, hk, ?_⟩
  cases b with
  | false =>
    rw [if_neg (by decide)]
    exact C.gives g_knows fun w7 k7 C => ⟨_, rfl, k7, rfl, Ctx.at_ C⟩
  | true =>
  rw [if_pos (by decide)]
  obtain ⟨-, hb⟩ := hb rfl
  obtain ⟨hpl, hwl⟩ := hb e (by simp)
  have hM1 : EnM m1 e := ⟨(hM.p.mono hmm).mono hm1, (hM.w.mono hmm).mono hm1, by omega, by omega⟩
  obtain ⟨G, hG, hG0⟩ : ∃ G : Int, g.tmod 4 = G ∧ 0 ≤ G ∧ G < 4 := ⟨_, rfl, Int.tmod_nonneg _ hg.1, Int.tmod_lt_of_pos _ (by decide)⟩
  obtain ⟨P, hP, hP0⟩ : ∃ P : Int, f.tmod 402 = P ∧ 0 ≤ P ∧ P < 402 := ⟨_, rfl, Int.tmod_nonneg _ hf.1, Int.tmod_lt_of_pos _ (by decide)⟩
  obtain ⟨N, hN, hN0⟩ : ∃ N : Nat, IntKind.wrap .i64 (398 + ((IntKind.i64.wrap (d.tmod 5 + 5)).tmod 5)) = (N : Int) ∧ 398 ≤ N ∧ N ≤ 402 := by
    have h5 : -5 < d.tmod 5 ∧ d.tmod 5 < 5 := ⟨by
      rcases Int.le_total 0 d with h | h
      · have := Int.tmod_nonneg (a := d) 5 h; omega
      · have h1 := Int.tmod_lt_of_pos (-d) (b := 5) (by decide)
        rw [Int.neg_tmod] at h1; omega, Int.tmod_lt_of_pos _ (by decide)⟩
    rw [w_i64 (n := d.tmod 5 + 5) (by omega) (by omega)]
    obtain ⟨r, hr, hr0⟩ : ∃ r : Int, (d.tmod 5 + 5).tmod 5 = r ∧ 0 ≤ r ∧ r < 5 := ⟨_, rfl, Int.tmod_nonneg _ (by omega), Int.tmod_lt_of_pos _ (by decide)⟩
    rw [hr, w_i64 (by omega) (by omega)]
    exact ⟨(398 + r).toNat, by omega, by omega⟩
  simp only [hG, hP, hN]
  refine (c_r5Right e G hi).call (As := []) C hM1 fun _ m2 w10 hk hm2 _ C => ⟨_, rfl, hk, ?_⟩
  by_cases hr : e.er.right G = true
  rotate_left
  · rw [Bool.eq_false_iff.2 hr, if_neg (by decide)]
    exact C.gives g_knows fun w7 k7 C => ⟨_, rfl, k7, rfl, Ctx.at_ C⟩
  rw [hr, if_pos (by decide)]
  refine C.gives g_knows fun w16 k16 C => ⟨_, rfl, k16, ?_⟩
  rw [if_neg (by decide)]
  have hM2 := hM1.mono hm2
  refine ⟨fun q k c n w' L' => ∃ j : Nat, n = j ∧ j = k ∧ j ≤ N ∧ Ctx [] (memOf w) w w' L' m2 [slA (.slice q j c) j ((List.replicate j e).flatMap En.row) 62 18], fun _ _ _ n _ => ((N : Int) - n).toNat, ⟨0, rfl, rfl, by omega, C.slNil⟩, ?_⟩
  clear C
  rintro q k c n w24 L25 _ ⟨j, rfl, rfl, hj, C⟩
  by_cases hjl : j < N
  · rw [if_pos (by simpa using hjl)]
    have D1 := (C.alloc e.row 62).swap
    have hcl : Cells _ ⟨w24.heap.size, 0, none⟩ e.row := (C.alloc e.row 62).blkCells (o := 0) fun k v e => by simpa using e
    obtain ⟨q2, c2, w25, hr2, hkk, D2⟩ := D1.app2 (P := Try.prog) (bytes := 160) (t := 38) (t2 := 38) 38 (by kernel_rfl) (.some ⟨w24.heap.size, 0, none⟩ 1 1 e.row rfl hcl) (by unfold maxLen; omega) (by omega) (en_one _)
    have e1 : IntKind.wrap .i64 ((j : Int) + 1) = ((j + 1 : Nat) : Int) := by rw [w_i64 (by omega) (by omega)]; omega
    have e2 : (List.replicate (j + 1) e).flatMap En.row = (List.replicate j e).flatMap En.row ++ e.row := by rw [List.replicate_succ', List.flatMap_append]; simp
    refine ⟨q2, j + 1, c2, w25, hr2, hkk, trivial, ?_⟩
    rw [e1]
    refine ⟨⟨j + 1, rfl, rfl, hjl, ?_⟩, Nat.le_of_eq (by show ((N : Int) - ((j + 1 : Nat) : Int)).toNat + 1 = ((N : Int) - (j : Int)).toNat; omega)⟩
    rw [e2]
    exact D2.pk [0] [1] rfl
  rw [if_neg (by simpa using hjl)]
  obtain rfl : j = N := by omega
  have hcap := C.slCap.1
  obtain ⟨m3, hm3, hs, C⟩ := C.slShare
  replace hM2 := hM2.mono hm3
  have hK : IntKind.wrap .i64 ((j : Int) - 398) = ((j - 398 : Nat) : Int) := by rw [w_i64 (by omega) (by omega)]; omega
  rw [hK, cutA_zero, Int.toNat_natCast]
  refine ⟨by omega, by omega, [], facts_nil _ _, fun w27 L28 h27 g27 => ?_⟩
  have hall : ∀ n : Nat, n ≤ 100000 → EsM m3 (q, c) (List.replicate n e) → True := fun _ _ _ => trivial
  have hes : ∀ n : Nat, ((List.replicate n e).map En.er).all (·.right G) = true := fun n => List.all_eq_true.2 fun x hx => by
    obtain ⟨y, hy, rfl⟩ := List.mem_map.1 hx
    rw [List.eq_of_mem_replicate hy]; exact hr
  obtain ⟨es, hesd⟩ : ∃ es, es = List.replicate (j - 398) e := ⟨_, rfl⟩
  obtain ⟨el, held⟩ : ∃ el, el = List.replicate j e := ⟨_, rfl⟩
  have les : es.length = j - 398 := by rw [hesd, List.length_replicate]
  have lel : el.length = j := by rw [held, List.length_replicate]
  have mes : EsM m3 (q, c) es := by
    refine ⟨?_, fun x hx => by rw [hesd] at hx; rw [List.eq_of_mem_replicate hx]; exact hM2⟩
    have := msrc_take hs (j - 398) c (by omega)
    rw [flat_take en_len, List.take_replicate, Nat.min_eq_left (by omega), ← hesd] at this
    show MSrc m3 18 (.slice q es.length c) es.length _
    rw [les]; exact this
  have mel : EsM m3 (q, c) el := by
    refine ⟨?_, fun x hx => by rw [held] at hx; rw [List.eq_of_mem_replicate hx]; exact hM2⟩
    rw [← held] at hs
    show MSrc m3 18 (.slice q el.length c) el.length _
    rw [lel]; exact hs
  have aes : allE (es.map En.er) G = true := by rw [allE, hesd, hes, Bool.and_true, decide_eq_true_eq]; simp; omega
  have ael : allE (el.map En.er) G = decide (j ≤ 400) := by rw [allE, held, hes, Bool.and_true]; simp
  have ines : ∀ x ∈ es.map En.er, EvIn x := fun x hx => by
    obtain ⟨y, hy, rfl⟩ := List.mem_map.1 hx
    rw [hesd] at hy; rw [List.eq_of_mem_replicate hy]; exact hi
  have inel : ∀ x ∈ el.map En.er, EvIn x := fun x hx => by
    obtain ⟨y, hy, rfl⟩ := List.mem_map.1 hx
    rw [held] at hy; rw [List.eq_of_mem_replicate hy]; exact hi
  clear hesd held hall hs
  rw [show j - 398 = es.length from les.symm]
  let x1 : Mg := ⟨3, G, 0, 1, P, 0, 0, 0, 0, I.zero, (none, 0), [], 0, ByteArray.mk #[], 0, 0, (none, 0), [], 0, 0, false, (none, 0), [], (q, c), es, (none, 0), []⟩
  let x2 : Mg := ⟨8, G, 0, 1, 0, 0, 0, 1, 0, I.zero, (none, 0), [], 0, ByteArray.mk #[], 0, 0, (none, 0), [], 0, 0, false, (none, 0), [], (q, c), el, (none, 0), []⟩
  have M1 : MgM m3 x1 := ⟨.nil .., .nil .., .nil .., mes, esNil m3, by show (0 : Nat) ≤ _; omega, by show (0 : Nat) ≤ _; omega, by show (0 : Nat) ≤ _; omega, by show es.length ≤ _; omega, by show (0 : Nat) ≤ _; omega⟩
  have M2 : MgM m3 x2 := ⟨.nil .., .nil .., .nil .., mel, esNil m3, by show (0 : Nat) ≤ _; omega, by show (0 : Nat) ≤ _; omega, by show (0 : Nat) ≤ _; omega, by show el.length ≤ _; omega, by show (0 : Nat) ≤ _; omega⟩
  have I1 : MvIn x1.er := ⟨kI, (fun p hp => nomatch hp), (fun p hp => nomatch hp), (fun p hp => nomatch hp), ines, (fun p hp => nomatch hp), by show 0 ≤ G ∧ G < 256; omega, by show (0 : Int) ≤ 0; omega, by show 0 ≤ P ∧ P < 4294967296; omega, by show (0 : Int) ≤ 3 ∧ (3 : Int) < 256; omega, by show (0 : Int) ≤ 1 ∧ (1 : Int) < 18446744073709551616; omega, by show (0 : Int) ≤ 0 ∧ (0 : Int) < 18446744073709551616; omega⟩
  have I2 : MvIn x2.er := ⟨kI, (fun p hp => nomatch hp), (fun p hp => nomatch hp), (fun p hp => nomatch hp), inel, (fun p hp => nomatch hp), by show 0 ≤ G ∧ G < 256; omega, by show (0 : Int) ≤ 0; omega, by show (0 : Int) ≤ 0 ∧ (0 : Int) < 4294967296; omega, by show (0 : Int) ≤ 8 ∧ (8 : Int) < 256; omega, by show (0 : Int) ≤ 1 ∧ (1 : Int) < 18446744073709551616; omega, by show (0 : Int) ≤ 1 ∧ (1 : Int) < 18446744073709551616; omega⟩
  have R1 : x1.er.right = decide (P + (es.length : Int) ≤ 400) := by
    have o1 : x1.er = x1.er.onlyP := by rw [oP3 rfl]; rfl
    rw [Mv.right, fP3 rfl, decide_eq_true o1, Bool.and_true]
    show (decide (G < 4) && (decide ((1 : Int) > 0) && decide (P ≤ 400) && decide ((0 : Int) ≤ 400) && decide (P + (((es.map En.er).length : Nat) : Int) ≤ 400) && allE (es.map En.er) G)) = _
    rw [aes, Bool.and_true, decide_eq_true (show G < 4 by omega), Bool.true_and, List.length_map, Bool.eq_iff_iff]
    simp only [Bool.and_eq_true, decide_eq_true_eq]
    omega
  have R2 : x2.er.right = decide (j ≤ 400) := by
    have o1 : x2.er = x2.er.onlyP := by rw [oP8 rfl]; rfl
    rw [Mv.right, fP8 rfl, decide_eq_true o1, Bool.and_true]
    show (decide (G < 4) && (decide ((1 : Int) > 0) && decide ((1 : Int) > 0) && allE (el.map En.er) G && (!false || _))) = _
    rw [ael, decide_eq_true (show G < 4 by omega)]
    simp
  refine (c_OwnM x1).call (As := []) (C.hidL h27 g27) M1 fun y m4 w30 hk hm4 hy C => ⟨_, _, _, _, _, _, _, _, _, _, _, _, _, _, _, _, _, _, _, _, _, _, _, _, _, _, _, _, _, _, _, _, _, _, _, _, _, _, _, _, _, rfl, hk, facts_nil _ _, [], facts_nil _ _, (fun _ h => h), ?_⟩
  refine (c_mRight y (by rw [hy.2]; exact I1)).call (As := []) C hy.1 fun _ m5 w75 hk hm5 _ C => ⟨_, rfl, hk, facts_nil _ _, [], facts_nil _ _, (fun _ h => h), ?_⟩
  have hsum : IntKind.wrap .i64 (IntKind.wrap .i64 (IntKind.wrap .i64 P + (j : Int)) - 398) = P + (es.length : Int) := by
    rw [w_i64 (n := P) (by omega) (by omega), w_i64 (n := P + j) (by omega) (by omega), w_i64 (by omega) (by omega), les]; omega
  rw [hy.2, R1, hsum, if_pos (by simp)]
  rw [show (j : Nat) = el.length from lel.symm]
  replace M1 := (M1.mono hm4).mono hm5
  replace M2 := (M2.mono hm4).mono hm5
  refine (c_OwnM x2).call (As := []) C M2 fun y2 m6 w84 hk hm6 hy2 C => ⟨_, _, _, _, _, _, _, _, _, _, _, _, _, _, _, _, _, _, _, _, _, _, _, _, _, _, _, _, _, _, _, _, _, _, _, _, _, _, _, _, _, rfl, hk, facts_nil _ _, [], facts_nil _ _, (fun _ h => h), ?_⟩
  refine (c_mRight y2 (by rw [hy2.2]; exact I2)).call (As := []) C hy2.1 fun _ m7 w129 hk hm7 _ C => ⟨_, rfl, hk, facts_nil _ _, [], facts_nil _ _, (fun _ h => h), ?_⟩
  rw [hy2.2, R2]
  have hj4 : decide (j ≤ 400) = decide (((el.length : Nat) : Int) ≤ 400) := by rw [Bool.eq_iff_iff]; simp only [decide_eq_true_eq]; omega
  rw [hj4, if_pos (by simp)]
  replace M1 := (M1.mono hm6).mono hm7
  refine (c_OwnM x1).call (As := []) C M1 fun y3 m8 w134 hk hm8 hy3 C => ⟨_, _, _, _, _, _, _, _, _, _, _, _, _, _, _, _, _, _, _, _, _, _, _, _, _, _, _, _, _, _, _, _, _, _, _, _, _, _, _, _, _, rfl, hk, facts_nil _ _, ?_⟩
  refine (c_mRight y3 (by rw [hy3.2]; exact I1)).call (As := []) C hy3.1 fun _ m9 w177 hk hm9 _ C => ⟨_, rfl, hk, facts_nil _ _, ?_⟩
  refine (c_r7Right x1 I1).call (As := []) C ((M1.mono hm8).mono hm9) fun _ m10 w180 hk hm10 _ C => ⟨_, rfl, hk, facts_nil _ _, ?_, Ctx.at_ C⟩
  rw [hy3.2]; simp
end Go.Proofs
