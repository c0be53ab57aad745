import Derived.Test.YtjphfelmaingjaaU07m4
import Derived.Test.YtjphfelmaingjaaV07m4
set_option linter.unusedVariables false
set_option linter.unusedSimpArgs false
set_option maxRecDepth 10000
namespace Go.Proofs
open Go X RowKit
/-! ### a writer, and what it has written -/
def wA (b : Nat) (v : Sl) (bs : List UInt8) : List Asn := [blk b [slV v bs.length] 119, slA (slV v bs.length) bs.length (byV bs) 5 1]
theorem u8_one (c : UInt8) : ∀ u ∈ [Value.int .u8 (c.toNat : Int)], oneC u = true := by intro u h; simp at h; subst h; rfl
theorem c_WB (b : Nat) (v : Sl) (bs : List UInt8) (c : UInt8) (hl : bs.length ≤ 100000000) : Ctr Try.prog 79 #[.pointer (some ⟨b, 0, none⟩), .int .u8 (c.toNat : Int)] noMem (wA b v bs) (fun _ : Sl => .tuple #[]) (fun _ _ => True) (fun v' => wA b v' (bs ++ [c])) := by
  refine Ctr.mk fun w F m C _ => x_WB _ _ w _ ⟨v.1, bs.length, v.2, C.blkCell (j := 0) rfl, ?_⟩
  have hcl : Cells _ ⟨w.heap.size, 0, none⟩ [Value.int .u8 (c.toNat : Int)] := (C.alloc [.int .u8 (c.toNat : Int)] 5).blkCells (o := 0) fun k v e => by simpa using e
  have D : Ctx F m w _ [] m [slA (slV v bs.length) bs.length (byV bs) 5 1, blk w.heap.size [.int .u8 (c.toNat : Int)] 5, blk b [slV v bs.length] 119] := Ctx.pm (C.alloc [.int .u8 (c.toNat : Int)] 5) [2, 0, 1] rfl
  obtain ⟨q2, c2, w7, hr, hkk, D2⟩ := D.app2 (P := Try.prog) (bytes := 1) (t := 66) (t2 := 66) 66 (by kernel_rfl) (.some ⟨w.heap.size, 0, none⟩ 1 1 [.int .u8 (c.toNat : Int)] rfl hcl) (by unfold maxLen; omega) (by omega) (u8_one c)
  have D3 : Ctx F m w w7 [] m [blk b [slV v bs.length] 119, slA (.slice q2 (bs.length + 1) c2) (bs.length + 1) (byV bs ++ [.int .u8 (c.toNat : Int)]) 5 1] := Ctx.pk D2 [2, 0] [1] rfl
  refine ⟨q2, bs.length + 1, c2, w7, hr, hkk.size, rfl, D3.there 0 1 (Nat.le_refl 1), ?_⟩
  refine Ctr.ret (m' := m) (L := []) (q2, c2) rfl trivial ?_
  have D4 := D3.store 0 [.slice q2 (bs.length + 1) c2] (Nat.le_refl 1)
  have e : byV (bs ++ [c]) = byV bs ++ [.int .u8 (c.toNat : Int)] := by simp [byV]
  rw [wA, e, List.length_append, List.length_singleton]
  exact D4
/-- a number's bytes -/
def putU (n : Nat) : List UInt8 := if n < 128 then [UInt8.ofNat n] else UInt8.ofNat (n % 128 + 128) :: putU (n / 128)
termination_by n
decreasing_by omega
theorem putU_lt {n : Nat} (h : n < 128) : putU n = [UInt8.ofNat n] := by rw [putU, if_pos h]
theorem putU_ge {n : Nat} (h : ¬ n < 128) : putU n = UInt8.ofNat (n % 128 + 128) :: putU (n / 128) := by rw [putU, if_neg h]
theorem putU_len : ∀ (j n : Nat), n < 128 ^ (j + 1) → (putU n).length ≤ j + 1
  | 0, n, h => by rw [putU_lt (by simpa using h)]; simp
  | j + 1, n, h => by
    by_cases h1 : n < 128
    · rw [putU_lt h1]; simp
    · rw [putU_ge h1, List.length_cons]
      have : n / 128 < 128 ^ (j + 1) := by rw [Nat.div_lt_iff_lt_mul (by decide), ← Nat.pow_succ]; exact h
      have := putU_len j (n / 128) this
      omega
theorem putU_10 {n : Nat} (h : n < 18446744073709551616) : (putU n).length ≤ 10 := putU_len 9 n (Nat.lt_of_lt_of_le h (by decide))
theorem putU_pos (n : Nat) : 1 ≤ (putU n).length := by
  by_cases h : n < 128
  · rw [putU_lt h]; simp
  · rw [putU_ge h]; simp
theorem u8_nat {n : Nat} (h : n < 256) : ((UInt8.ofNat n).toNat : Int) = n := by
  have : (UInt8.ofNat n).toNat = n % 256 := rfl
  rw [this, Nat.mod_eq_of_lt h]
theorem or128 (k : Nat) : IntKind.wrap .u8 (((BitVec.ofInt 8 (IntKind.u8.wrap (k : Int)) ||| BitVec.ofInt 8 128).toNat : Nat) : Int) = ((UInt8.ofNat (k % 128 + 128)).toNat : Int) := by
  have hw : IntKind.u8.wrap (k : Int) = ((k % 256 : Nat) : Int) := by simp [IntKind.wrap, IntKind.bits, IntKind.signed]
  rw [hw, u8_nat (by omega)]
  have h : ∀ r : Fin 256, (((BitVec.ofInt 8 ((r.val : Nat) : Int) ||| BitVec.ofInt 8 128).toNat : Nat) : Int) = ((r.val % 128 + 128 : Nat) : Int) := by decide +kernel
  have h2 := h ⟨k % 256, Nat.mod_lt _ (by decide)⟩
  rw [h2]
  have : k % 256 % 128 = k % 128 := Nat.mod_mod_of_dvd k (by decide)
  simp only [this]
  rw [w_u8 (by omega) (by omega)]
theorem fdiv128 (k : Nat) : (k : Int).fdiv 128 = ((k / 128 : Nat) : Int) := by rw [Int.fdiv_eq_ediv_of_nonneg _ (by decide)]; rfl
theorem c_WU (b : Nat) (v : Sl) (bs : List UInt8) (n : Nat) (hn : n < 18446744073709551616) (hl : bs.length ≤ 10000000) : Ctr Try.prog 54 #[.pointer (some ⟨b, 0, none⟩), .int .u64 (n : Int)] noMem (wA b v bs) (fun _ : Sl => .tuple #[]) (fun _ _ => True) (fun v' => wA b v' (bs ++ putU n)) := by
  refine Ctr.mk fun w F m C _ => x_WU _ _ w _ ?_
  have h10 := putU_10 hn
  refine ⟨fun n' w' _ => ∃ (k : Nat) (v' : Sl) (pre : List UInt8), n' = k ∧ k < 18446744073709551616 ∧ bs ++ putU n = pre ++ putU k ∧ Ctx F m w w' [] m (wA b v' pre), fun n' _ => n'.toNat, ⟨n, v, bs, rfl, hn, rfl, C⟩, ?_⟩
  clear C
  rintro n' w4 L5 _ ⟨k, v', pre, rfl, hk, he, C⟩
  have hpl : pre.length ≤ 100000000 := by have := congrArg List.length he; simp only [List.length_append] at this; omega
  have step : ∀ (c : UInt8), ∃ q2 c2 w7, (Builtin.append_ #[66, 66] 66 #[.slice v'.1 pre.length v'.2, .slice (some ⟨w4.heap.size, 0, none⟩) 1 1]).run Try.prog (w4.alloc (.cells #[.int .u8 (c.toNat : Int)] 5)) = .ok (.slice q2 (pre.length + 1) c2) w7 ∧ (w4.alloc (.cells #[.int .u8 (c.toNat : Int)] 5)).heap.size ≤ w7.heap.size ∧ World.there w7 b 0 1 ∧ Ctx F m w (w7.setCells b 0 [.slice q2 (pre.length + 1) c2]) [] m (wA b (q2, c2) (pre ++ [c])) := fun c => by
    have hcl : Cells _ ⟨w4.heap.size, 0, none⟩ [Value.int .u8 (c.toNat : Int)] := (C.alloc [.int .u8 (c.toNat : Int)] 5).blkCells (o := 0) fun k v e => by simpa using e
    have D : Ctx F m w _ [] m [slA (slV v' pre.length) pre.length (byV pre) 5 1, blk w4.heap.size [.int .u8 (c.toNat : Int)] 5, blk b [slV v' pre.length] 119] := Ctx.pm (C.alloc [.int .u8 (c.toNat : Int)] 5) [2, 0, 1] rfl
    obtain ⟨q2, c2, w7, hr, hkk, D2⟩ := D.app2 (P := Try.prog) (bytes := 1) (t := 66) (t2 := 66) 66 (by kernel_rfl) (.some ⟨w4.heap.size, 0, none⟩ 1 1 [.int .u8 (c.toNat : Int)] rfl hcl) (by unfold maxLen; omega) (by omega) (u8_one c)
    have D3 : Ctx F m w w7 [] m [blk b [slV v' pre.length] 119, slA (.slice q2 (pre.length + 1) c2) (pre.length + 1) (byV pre ++ [.int .u8 (c.toNat : Int)]) 5 1] := Ctx.pk D2 [2, 0] [1] rfl
    refine ⟨q2, c2, w7, hr, hkk.size, D3.there 0 1 (Nat.le_refl 1), ?_⟩
    have D4 := D3.store 0 [.slice q2 (pre.length + 1) c2] (Nat.le_refl 1)
    have e : byV (pre ++ [c]) = byV pre ++ [.int .u8 (c.toNat : Int)] := by simp [byV]
    rw [wA, e, List.length_append, List.length_singleton]
    exact D4
  by_cases h128 : k < 128
  · rw [if_neg (by simp only [decide_eq_true_eq]; omega)]
    refine ⟨v'.1, pre.length, v'.2, C.blkCell (j := 0) rfl, ?_⟩
    have hb : IntKind.wrap .u8 (k : Int) = ((UInt8.ofNat k).toNat : Int) := by rw [w_u8 (by omega) (by omega), u8_nat (by omega)]
    rw [hb]
    obtain ⟨q2, c2, w7, s1, s2, s3, s4⟩ := step (UInt8.ofNat k)
    refine ⟨q2, pre.length + 1, c2, w7, s1, s2, rfl, s3, Ctr.ret (m' := m) (L := []) (q2, c2) rfl trivial ?_⟩
    rw [he, putU_lt h128]; exact s4
  · rw [if_pos (by simp only [decide_eq_true_eq]; omega)]
    refine ⟨v'.1, pre.length, v'.2, C.blkCell (j := 0) rfl, ?_⟩
    rw [or128]
    obtain ⟨q2, c2, w7, s1, s2, s3, s4⟩ := step (UInt8.ofNat (k % 128 + 128))
    refine ⟨q2, pre.length + 1, c2, w7, s1, s2, rfl, s3, ?_⟩
    rw [fdiv128]
    refine ⟨⟨k / 128, (q2, c2), pre ++ [UInt8.ofNat (k % 128 + 128)], rfl, by omega, by rw [he, putU_ge h128]; simp, s4⟩, ?_⟩
    show (((k / 128 : Nat) : Int)).toNat + 1 ≤ ((k : Nat) : Int).toNat
    omega
theorem c_WText (b : Nat) (v : Sl) (bs : List UInt8) (s : ByteArray) (hs : s.size ≤ 10000000) (hl : bs.length ≤ 10000000) : Ctr Try.prog 56 #[.pointer (some ⟨b, 0, none⟩), .string s] noMem (wA b v bs) (fun _ : Sl => .tuple #[]) (fun _ _ => True) (fun v' => wA b v' (bs ++ (putU s.size ++ s.data.toList))) := by
  refine Ctr.mk fun w F m C _ => x_WText _ _ w _ ?_
  rw [w_u64 (by omega) (by omega)]
  have h10 := putU_10 (n := s.size) (by omega)
  refine (c_WU b v bs s.size (by omega) hl).call (As := []) C trivial fun v' m1 w2 hk hm _ C => ⟨rfl, hk.size, ?_⟩
  refine ⟨v'.1, (bs ++ putU s.size).length, v'.2, C.blkCell (j := 0) rfl, ?_⟩
  have D : Ctx F m w w2 [] m1 [slA (slV v' (bs ++ putU s.size).length) (bs ++ putU s.size).length (byV (bs ++ putU s.size)) 5 1, blk b [slV v' (bs ++ putU s.size).length] 119] := Ctx.pm C [1, 0] rfl
  have hlen : (bs ++ putU s.size).length ≤ 20000000 := by rw [List.length_append]; omega
  generalize hp : bs ++ putU s.size = pre at D hlen
  obtain ⟨q2, c2, w7, hr, hkk, D2⟩ := D.app2 (P := Try.prog) (bytes := 1) (t := 66) (t2 := 9) 66 (by kernel_rfl) (.str s rfl) (by unfold maxLen; omega) (by omega) (byV_one _)
  have D3 : Ctx F m w w7 [] m1 [blk b [slV v' pre.length] 119, slA (.slice q2 (pre.length + s.size) c2) (pre.length + s.size) (byV pre ++ byV s.data.toList) 5 1] := Ctx.pm D2 [1, 0] rfl
  refine ⟨q2, pre.length + s.size, c2, w7, hr, hkk.size, rfl, D3.there 0 1 (Nat.le_refl 1), ?_⟩
  refine Ctr.ret (m' := m1) (L := []) (q2, c2) rfl trivial ?_
  have D4 := D3.store 0 [.slice q2 (pre.length + s.size) c2] (Nat.le_refl 1)
  have e2 : (pre ++ s.data.toList).length = pre.length + s.size := by rw [List.length_append]; rfl
  rw [wA, ← List.append_assoc, hp, byV_append, e2]
  exact D4
/-- all that was written, as a slice of its own -/
theorem c_WBytes (b : Nat) (v : Sl) (bs : List UInt8) (hl : bs.length ≤ 100000000) : Ctr Try.prog 58 #[.pointer (some ⟨b, 0, none⟩)] noMem (wA b v bs) (fun q : Sl => slV q bs.length) (fun _ _ => True) (fun q => slA (slV q bs.length) bs.length (byV bs) 5 1 :: wA b v bs) := by
  refine Ctr.mk fun w F m C _ => x_WBytes _ w _ ⟨v.1, bs.length, v.2, C.blkCell (j := 0) rfl, ?_⟩
  have D : Ctx F m w w [] m (slA (.slice none 0 0) 0 [] 5 1 :: wA b v bs) := C.slNil
  have D0 : Ctx F m w w [] m [slA (slV v bs.length) bs.length (byV bs) 5 1, blk b [slV v bs.length] 119] := Ctx.pm C [1, 0] rfl
  obtain ⟨q2, c2, w7, hr, hkk, D2⟩ := D.app2 (P := Try.prog) (bytes := 1) (t := 66) (t2 := 66) 66 (by kernel_rfl) D0.slSrc (by unfold maxLen; omega) (by omega) (byV_one _)
  rw [Nat.zero_add] at hr D2
  exact ⟨q2, bs.length, c2, w7, hr, hkk.size, Ctr.ret (m' := m) (L := []) (q2, c2) rfl trivial D2⟩
def u8 (n : Int) : UInt8 := UInt8.ofNat n.toNat
theorem u8I {n : Int} (h : 0 ≤ n ∧ n < 256) : ((u8 n).toNat : Int) = n := by rw [u8, u8_nat (by omega)]; omega
theorem natI {n : Int} (h : 0 ≤ n) : ((n.toNat : Nat) : Int) = n := by omega
def flagB (b : Bool) : UInt8 := if b then 1 else 0
theorem c_Wflag (b : Nat) (v : Sl) (bs : List UInt8) (f : Bool) (hl : bs.length ≤ 10000000) : Ctr Try.prog 55 #[.pointer (some ⟨b, 0, none⟩), .bool f] noMem (wA b v bs) (fun _ : Sl => .tuple #[]) (fun _ _ => True) (fun v' => wA b v' (bs ++ [flagB f])) := by
  refine Ctr.mk fun w F m C _ => x_Wflag _ _ w _ ?_
  cases f with
  | true =>
    rw [if_pos rfl]
    exact (c_WB b v bs 1 (by omega)).call (As := []) C trivial fun v' m1 w2 hk hm _ C => ⟨rfl, hk.size, Ctr.ret (L := _) v' rfl trivial C⟩
  | false =>
    rw [if_neg (by decide)]
    exact (c_WB b v bs 0 (by omega)).call (As := []) C trivial fun v' m1 w2 hk hm _ C => ⟨rfl, hk.size, Ctr.ret (L := _) v' rfl trivial C⟩
def putP (n l : Int) : List UInt8 := u8 n :: putU l.toNat
theorem c_PutProc (b : Nat) (v : Sl) (bs : List UInt8) (n l : Int) (hn : 0 ≤ n ∧ n < 256) (hl : 0 ≤ l ∧ l < 65536) (hb : bs.length ≤ 9000000) : Ctr Try.prog 53 #[.pointer (some ⟨b, 0, none⟩), PV n l] noMem (wA b v bs) (fun _ : Sl => .tuple #[]) (fun _ _ => True) (fun v' => wA b v' (bs ++ putP n l)) := by
  refine Ctr.mk fun w F m C _ => x_PutProc _ _ _ w _ fun w1 L2 h1 g1 => ?_
  have e1 : Value.int .u8 n = .int .u8 ((u8 n).toNat : Int) := by rw [u8I hn]
  have e2 : Value.int .u64 (IntKind.wrap .u64 l) = .int .u64 (l.toNat : Int) := by rw [w_u64 (by omega) (by omega), natI hl.1]
  rw [e1]
  refine (c_WB b v bs (u8 n) (by omega)).call (As := []) (C.hidL h1 g1) trivial fun v' m1 w2 hk hm _ C => ⟨rfl, hk, ?_⟩
  rw [e2]
  refine (c_WU b v' (bs ++ [u8 n]) l.toNat (by omega) (by rw [List.length_append]; simp; omega)).call (As := []) C trivial fun v2 m2 w3 hk hm2 _ C => ⟨rfl, hk, Ctr.ret (m' := m2) (L := L2) v2 rfl trivial ?_⟩
  rw [List.append_assoc] at C
  exact C
theorem c_Wround (b : Nat) (v : Sl) (bs : List UInt8) (x : Mg) (hi : MvIn x.er) (hb : bs.length ≤ 9000000) (h32 : x.nn < 4294967296) : Ctr Try.prog 110 #[.pointer (some ⟨b, 0, none⟩), .agg x.row.toArray] noMem (wA b v bs) (fun _ : Sl => .tuple #[]) (fun _ _ => True) (fun v' => wA b v' (bs ++ ([u8 x.gr] ++ putU x.nn.toNat ++ putU x.ba.toNat))) := by
  refine Ctr.mk fun w F m C _ => x_Wround _ _ _ _ _ _ _ _ _ _ _ _ _ _ _ _ _ _ _ _ _ _ _ _ _ _ _ _ _ _ _ _ _ _ _ _ _ _ _ _ _ _ w _ ⟨[], facts_nil _ _, fun w1 L2 h1 g1 => ?_⟩
  have hgr : 0 ≤ x.gr ∧ x.gr < 256 := hi.gr
  have hnn : 0 ≤ x.nn ∧ x.nn < 18446744073709551616 := hi.nn
  have hba : 0 ≤ x.ba ∧ x.ba < 18446744073709551616 := hi.ba
  have l1 := putU_10 (n := x.nn.toNat) (by omega)
  have e1 : Value.int .u8 x.gr = .int .u8 ((u8 x.gr).toNat : Int) := by rw [u8I hgr]
  have e2 : Value.int .u64 (IntKind.wrap .u64 x.nn) = .int .u64 (x.nn.toNat : Int) := by rw [w_u64 (by omega) (by omega), natI hnn.1]
  have e3 : Value.int .u64 x.ba = .int .u64 (x.ba.toNat : Int) := by rw [natI hba.1]
  rw [e1]
  refine (c_WB b v bs (u8 x.gr) (by omega)).call (As := []) (C.hidL h1 g1) trivial fun v' m1 w2 hk hm _ C => ⟨rfl, hk, [], facts_nil _ _, fun w3 L3 h3 g3 => ?_⟩
  rw [e2]
  refine (c_WU b v' (bs ++ [u8 x.gr]) x.nn.toNat (by omega) (by rw [List.length_append]; simp; omega)).call (As := []) (C.hidL h3 g3) trivial fun v2 m2 w3 hk hm2 _ C => ⟨rfl, hk, facts_nil _ _, [], facts_nil _ _, fun w4 L4 h4 g4 => ?_⟩
  rw [e3]
  refine (c_WU b v2 (bs ++ [u8 x.gr] ++ putU x.nn.toNat) x.ba.toNat (by omega) (by rw [List.length_append, List.length_append]; simp; omega)).call (As := []) (C.hidL h4 g4) trivial fun v3 m3 w5 hk hm3 _ C => ⟨rfl, hk, Ctr.ret (m' := m3) (L := L4) v3 rfl trivial ?_⟩
  have e : bs ++ ([u8 x.gr] ++ putU x.nn.toNat ++ putU x.ba.toNat) = bs ++ [u8 x.gr] ++ putU x.nn.toNat ++ putU x.ba.toNat := by simp
  rw [e]; exact C
theorem c_num (n : Int) : Gives Try.prog 23 #[.int .i64 n] (.int .i64 n) := fun w => x_num _ w _ ⟨rfl, below_refl _ _⟩
def wordL (k : Int) : List UInt8 :=
  if k = 0 then [65, 115, 107]
  else if k = 1 then [65, 110, 115, 119, 101, 114]
  else if k = 2 then [82, 101, 102, 117, 115, 101]
  else if k = 3 then [65, 112, 112, 101, 110, 100]
  else if k = 4 then [65, 99, 107, 101, 100]
  else if k = 5 then [80, 114, 101, 112, 97, 114, 101]
  else if k = 6 then [65, 99, 99, 101, 112, 116]
  else if k = 7 then [78, 97, 99, 107]
  else if k = 8 then [80, 114, 111, 109, 105, 115, 101]
  else if k = 9 then [80, 114, 111, 112, 111, 115, 101]
  else if k = 10 then [73, 110, 115, 116, 97, 108, 108]
  else if k = 11 then [74, 111, 105, 110]
  else if k = 12 then [76, 101, 97, 118, 101]
  else if k = 13 then [83, 108, 97, 121]
  else []
theorem wordL0 {k : Int} (h : k = 0) : wordL k = [65, 115, 107] := by rw [wordL, if_pos h]
theorem wordL1 {k : Int} (h : k = 1) : wordL k = [65, 110, 115, 119, 101, 114] := by rw [wordL, if_neg (by omega), if_pos h]
theorem wordL2 {k : Int} (h : k = 2) : wordL k = [82, 101, 102, 117, 115, 101] := by rw [wordL, if_neg (by omega), if_neg (by omega), if_pos h]
theorem wordL3 {k : Int} (h : k = 3) : wordL k = [65, 112, 112, 101, 110, 100] := by rw [wordL, if_neg (by omega), if_neg (by omega), if_neg (by omega), if_pos h]
theorem wordL4 {k : Int} (h : k = 4) : wordL k = [65, 99, 107, 101, 100] := by rw [wordL, if_neg (by omega), if_neg (by omega), if_neg (by omega), if_neg (by omega), if_pos h]
theorem wordL5 {k : Int} (h : k = 5) : wordL k = [80, 114, 101, 112, 97, 114, 101] := by rw [wordL, if_neg (by omega), if_neg (by omega), if_neg (by omega), if_neg (by omega), if_neg (by omega), if_pos h]
theorem wordL6 {k : Int} (h : k = 6) : wordL k = [65, 99, 99, 101, 112, 116] := by rw [wordL, if_neg (by omega), if_neg (by omega), if_neg (by omega), if_neg (by omega), if_neg (by omega), if_neg (by omega), if_pos h]
theorem wordL7 {k : Int} (h : k = 7) : wordL k = [78, 97, 99, 107] := by rw [wordL, if_neg (by omega), if_neg (by omega), if_neg (by omega), if_neg (by omega), if_neg (by omega), if_neg (by omega), if_neg (by omega), if_pos h]
theorem wordL8 {k : Int} (h : k = 8) : wordL k = [80, 114, 111, 109, 105, 115, 101] := by rw [wordL, if_neg (by omega), if_neg (by omega), if_neg (by omega), if_neg (by omega), if_neg (by omega), if_neg (by omega), if_neg (by omega), if_neg (by omega), if_pos h]
theorem wordL9 {k : Int} (h : k = 9) : wordL k = [80, 114, 111, 112, 111, 115, 101] := by rw [wordL, if_neg (by omega), if_neg (by omega), if_neg (by omega), if_neg (by omega), if_neg (by omega), if_neg (by omega), if_neg (by omega), if_neg (by omega), if_neg (by omega), if_pos h]
theorem wordL10 {k : Int} (h : k = 10) : wordL k = [73, 110, 115, 116, 97, 108, 108] := by rw [wordL, if_neg (by omega), if_neg (by omega), if_neg (by omega), if_neg (by omega), if_neg (by omega), if_neg (by omega), if_neg (by omega), if_neg (by omega), if_neg (by omega), if_neg (by omega), if_pos h]
theorem wordL11 {k : Int} (h : k = 11) : wordL k = [74, 111, 105, 110] := by rw [wordL, if_neg (by omega), if_neg (by omega), if_neg (by omega), if_neg (by omega), if_neg (by omega), if_neg (by omega), if_neg (by omega), if_neg (by omega), if_neg (by omega), if_neg (by omega), if_neg (by omega), if_pos h]
theorem wordL12 {k : Int} (h : k = 12) : wordL k = [76, 101, 97, 118, 101] := by rw [wordL, if_neg (by omega), if_neg (by omega), if_neg (by omega), if_neg (by omega), if_neg (by omega), if_neg (by omega), if_neg (by omega), if_neg (by omega), if_neg (by omega), if_neg (by omega), if_neg (by omega), if_neg (by omega), if_pos h]
theorem wordL13 {k : Int} (h : k = 13) : wordL k = [83, 108, 97, 121] := by rw [wordL, if_neg (by omega), if_neg (by omega), if_neg (by omega), if_neg (by omega), if_neg (by omega), if_neg (by omega), if_neg (by omega), if_neg (by omega), if_neg (by omega), if_neg (by omega), if_neg (by omega), if_neg (by omega), if_neg (by omega), if_pos h]
theorem wordLo {k : Int} (h : ¬ (0 ≤ k ∧ k ≤ 13)) : wordL k = [] := by rw [wordL, if_neg (by omega), if_neg (by omega), if_neg (by omega), if_neg (by omega), if_neg (by omega), if_neg (by omega), if_neg (by omega), if_neg (by omega), if_neg (by omega), if_neg (by omega), if_neg (by omega), if_neg (by omega), if_neg (by omega), if_neg (by omega)]
theorem c_Word (k : Int) (h0 : 0 ≤ k ∧ k < 256) : Gives Try.prog 14 #[.int .u8 k] (.string (toBA (wordL k))) := by
  intro w
  refine x_Word _ w _ ?_
  rw [w_i64 (n := k) (by omega) (by omega)]
  by_cases hk : k ≥ 14
  · rw [if_pos (by simpa using hk), wordLo (by omega)]
    exact fun w1 h1 => ⟨rfl, hid_below h1 (by simp) (Nat.le_refl _)⟩
  · rw [if_neg (by simpa using hk)]
    refine ⟨by omega, by omega, ?_⟩
    repeat' apply And.intro
    all_goals intro h w1 h1
    all_goals refine ⟨?_, hid_below h1 (by simp) (Nat.le_refl _)⟩
    all_goals (subst h; rfl)
abbrev wordT : List Value := [.string (ByteArray.mk #[OfNat.ofNat 65, OfNat.ofNat 115, OfNat.ofNat 107]), .string (ByteArray.mk #[OfNat.ofNat 65, OfNat.ofNat 110, OfNat.ofNat 115, OfNat.ofNat 119, OfNat.ofNat 101, OfNat.ofNat 114]), .string (ByteArray.mk #[OfNat.ofNat 82, OfNat.ofNat 101, OfNat.ofNat 102, OfNat.ofNat 117, OfNat.ofNat 115, OfNat.ofNat 101]), .string (ByteArray.mk #[OfNat.ofNat 65, OfNat.ofNat 112, OfNat.ofNat 112, OfNat.ofNat 101, OfNat.ofNat 110, OfNat.ofNat 100]), .string (ByteArray.mk #[OfNat.ofNat 65, OfNat.ofNat 99, OfNat.ofNat 107, OfNat.ofNat 101, OfNat.ofNat 100]), .string (ByteArray.mk #[OfNat.ofNat 80, OfNat.ofNat 114, OfNat.ofNat 101, OfNat.ofNat 112, OfNat.ofNat 97, OfNat.ofNat 114, OfNat.ofNat 101]), .string (ByteArray.mk #[OfNat.ofNat 65, OfNat.ofNat 99, OfNat.ofNat 99, OfNat.ofNat 101, OfNat.ofNat 112, OfNat.ofNat 116]), .string (ByteArray.mk #[OfNat.ofNat 78, OfNat.ofNat 97, OfNat.ofNat 99, OfNat.ofNat 107]), .string (ByteArray.mk #[OfNat.ofNat 80, OfNat.ofNat 114, OfNat.ofNat 111, OfNat.ofNat 109, OfNat.ofNat 105, OfNat.ofNat 115, OfNat.ofNat 101]), .string (ByteArray.mk #[OfNat.ofNat 80, OfNat.ofNat 114, OfNat.ofNat 111, OfNat.ofNat 112, OfNat.ofNat 111, OfNat.ofNat 115, OfNat.ofNat 101]), .string (ByteArray.mk #[OfNat.ofNat 73, OfNat.ofNat 110, OfNat.ofNat 115, OfNat.ofNat 116, OfNat.ofNat 97, OfNat.ofNat 108, OfNat.ofNat 108]), .string (ByteArray.mk #[OfNat.ofNat 74, OfNat.ofNat 111, OfNat.ofNat 105, OfNat.ofNat 110]), .string (ByteArray.mk #[OfNat.ofNat 76, OfNat.ofNat 101, OfNat.ofNat 97, OfNat.ofNat 118, OfNat.ofNat 101]), .string (ByteArray.mk #[OfNat.ofNat 83, OfNat.ofNat 108, OfNat.ofNat 97, OfNat.ofNat 121])]
theorem c_rWord (k : Int) (h0 : 0 ≤ k ∧ k < 256) : Gives Try.prog 15 #[.int .u8 k] (.string (toBA (wordL k))) := by
  intro w
  refine x_rWord _ w _ ?_
  have C := (lawStart w).alloc wordT 9
  rw [w_i64 (n := k) (by omega) (by omega)]
  by_cases hk : k ≥ 14
  · rw [if_pos (by simpa using hk), wordLo (by omega)]
    exact ⟨rfl, ctx_bel0 C⟩
  · rw [if_neg (by simpa using hk)]
    have hk' : k = 0 ∨ k = 1 ∨ k = 2 ∨ k = 3 ∨ k = 4 ∨ k = 5 ∨ k = 6 ∨ k = 7 ∨ k = 8 ∨ k = 9 ∨ k = 10 ∨ k = 11 ∨ k = 12 ∨ k = 13 := by omega
    rcases hk' with rfl | rfl | rfl | rfl | rfl | rfl | rfl | rfl | rfl | rfl | rfl | rfl | rfl | rfl
    · refine ⟨by omega, by omega, toBA (wordL 0), ?_, rfl, ctx_bel0 C⟩
      rw [wordL0 rfl]
      exact C.blkCell (j := 0) rfl
    · refine ⟨by omega, by omega, toBA (wordL 1), ?_, rfl, ctx_bel0 C⟩
      rw [wordL1 rfl]
      exact C.blkCell (j := 1) rfl
    · refine ⟨by omega, by omega, toBA (wordL 2), ?_, rfl, ctx_bel0 C⟩
      rw [wordL2 rfl]
      exact C.blkCell (j := 2) rfl
    · refine ⟨by omega, by omega, toBA (wordL 3), ?_, rfl, ctx_bel0 C⟩
      rw [wordL3 rfl]
      exact C.blkCell (j := 3) rfl
    · refine ⟨by omega, by omega, toBA (wordL 4), ?_, rfl, ctx_bel0 C⟩
      rw [wordL4 rfl]
      exact C.blkCell (j := 4) rfl
    · refine ⟨by omega, by omega, toBA (wordL 5), ?_, rfl, ctx_bel0 C⟩
      rw [wordL5 rfl]
      exact C.blkCell (j := 5) rfl
    · refine ⟨by omega, by omega, toBA (wordL 6), ?_, rfl, ctx_bel0 C⟩
      rw [wordL6 rfl]
      exact C.blkCell (j := 6) rfl
    · refine ⟨by omega, by omega, toBA (wordL 7), ?_, rfl, ctx_bel0 C⟩
      rw [wordL7 rfl]
      exact C.blkCell (j := 7) rfl
    · refine ⟨by omega, by omega, toBA (wordL 8), ?_, rfl, ctx_bel0 C⟩
      rw [wordL8 rfl]
      exact C.blkCell (j := 8) rfl
    · refine ⟨by omega, by omega, toBA (wordL 9), ?_, rfl, ctx_bel0 C⟩
      rw [wordL9 rfl]
      exact C.blkCell (j := 9) rfl
    · refine ⟨by omega, by omega, toBA (wordL 10), ?_, rfl, ctx_bel0 C⟩
      rw [wordL10 rfl]
      exact C.blkCell (j := 10) rfl
    · refine ⟨by omega, by omega, toBA (wordL 11), ?_, rfl, ctx_bel0 C⟩
      rw [wordL11 rfl]
      exact C.blkCell (j := 11) rfl
    · refine ⟨by omega, by omega, toBA (wordL 12), ?_, rfl, ctx_bel0 C⟩
      rw [wordL12 rfl]
      exact C.blkCell (j := 12) rfl
    · refine ⟨by omega, by omega, toBA (wordL 13), ?_, rfl, ctx_bel0 C⟩
      rw [wordL13 rfl]
      exact C.blkCell (j := 13) rfl
end Go.Proofs
namespace Go.Proofs
open Go X RowKit
theorem c_Wmsg6 (b : Nat) (v : Sl) (bs : List UInt8) (x : Mg) (hk : x.kd = 6) (hi : MvIn x.er) (hb : bs.length ≤ 9000000) (h32 : x.nn < 4294967296) : Ctr Try.prog 80 #[.pointer (some ⟨b, 0, none⟩), .agg x.row.toArray] noMem (wA b v bs) (fun _ : Sl => .tuple #[]) (fun _ _ => True) (fun v' => wA b v' (bs ++ ([u8 x.gr] ++ putU x.nn.toNat ++ putU x.ba.toNat))) := by
  have cR := c_Wround b v bs x hi hb h32
  clear hi h32
  obtain ⟨kd, gr, co, nn, fr, cm, fl, ba, ac, id, pq, ps, rc, rv, vg, vn, vq, vm, pn, pl, has, mq, ms, eq, es, tq, ts⟩ := x
  replace hk : kd = 6 := hk
  subst hk
  refine Ctr.mk fun w F m C _ => x_Wmsg _ _ _ _ _ _ _ _ _ _ _ _ _ _ _ _ _ _ _ _ _ _ _ _ _ _ _ _ _ _ _ _ _ _ _ _ _ _ _ _ _ _ w _ ?_
  dsimp only
  repeat (first | rw [if_pos (by decide)] | rw [if_neg (by decide)])
  intro w1 L2 h1 g1
  exact cR.call (As := []) (C.hidL h1 g1) trivial fun v' m1 w2 hk hm _ C => ⟨rfl, hk, Ctr.ret (m' := m1) (L := L2) v' rfl trivial C⟩
def kMsg : Mg := ⟨6, 1, 0, 2, 0, 0, 0, 300, 0, I.zero, (none, 0), [], 0, ByteArray.mk #[], 0, 0, (none, 0), [], 0, 0, false, (none, 0), [], (none, 0), [], (none, 0), []⟩
theorem kM (m : Mem) : MgM m kMsg := ⟨.nil .., .nil .., .nil .., esNil m, esNil m, by decide, by decide, by decide, by decide, by decide⟩
theorem kI : I.zero.In := by constructor <;> exact ⟨by decide, by decide⟩
theorem kIn : MvIn kMsg.er := by
  constructor
  · exact kI
  all_goals first | (intro p hp; cases hp) | exact ⟨by decide, by decide⟩ | decide
theorem k_right : kMsg.er.right = true := by decide +kernel
def kB : List UInt8 := [6, 1, 2, 172, 2]
theorem kB_eq : [(6 : UInt8)] ++ ([u8 1] ++ putU 2 ++ putU 300) = kB := by
  have e1 : putU 2 = [2] := by rw [putU_lt (by decide)]; rfl
  have e2 : putU 300 = [172, 2] := by rw [putU_ge (by decide), putU_lt (by decide)]; rfl
  rw [e1, e2]; rfl
theorem c_BytesK : Ctr Try.prog 26 #[.agg kMsg.row.toArray] noMem [] (fun q : Sl => .tuple #[slV q kB.length, .int .i64 0]) (fun q m => MSrc m 1 (slV q kB.length) kB.length (byV kB)) (fun _ => []) := by
  refine Ctr.mk fun w F m C _ => x_Bytes _ _ _ _ _ _ _ _ _ _ _ _ _ _ _ _ _ _ _ _ _ _ _ _ _ _ _ _ _ _ _ _ _ _ _ _ _ _ _ _ _ w _ fun w1 L2 h1 g1 => ?_
  refine (c_mRight kMsg kIn).call (As := []) (C.hidL h1 g1) (kM m) fun _ m1 w4 hk hm _ C => ⟨_, rfl, hk, ?_⟩
  rw [k_right, if_neg (by decide)]
  have D : Ctx F m w (w4.alloc (.cells #[.slice none 0 0] 119)) L2 m1 (wA w4.heap.size (none, 0) []) := Ctx.pm (C.alloc [.slice none 0 0] 119).slNil [1, 0] rfl
  refine ⟨[], facts_nil _ _, fun w7 L8 h7 g7 => ?_⟩
  refine (c_WB w4.heap.size (none, 0) [] 6 (by decide)).call (As := []) (D.hidL h7 g7) trivial fun v2 m2 w10 hk hm2 _ C => ⟨rfl, hk, ?_⟩
  refine (c_Wmsg6 w4.heap.size v2 [6] kMsg rfl kIn (by decide) (by decide)).call (As := []) C trivial fun v3 m3 w12 hk hm3 _ C => ⟨rfl, hk, ?_⟩
  have e : [(6 : UInt8)] ++ ([u8 kMsg.gr] ++ putU kMsg.nn.toNat ++ putU kMsg.ba.toNat) = kB := kB_eq
  rw [e] at C
  refine (c_WBytes w4.heap.size v3 kB (by decide)).call (As := []) C trivial fun q m4 w14 hk hm4 _ C => ⟨_, _, _, rfl, hk, ?_⟩
  obtain ⟨m5, hm5, hs, C⟩ := C.slShare
  exact Ctr.ret (m' := m5) (L := []) q rfl hs (C.noL.sub fun F _ _ => ⟨[], rfl, by simp⟩)
theorem g_knows : Gives Try.prog 8 #[] (.bool true) := by
  intro w
  refine x_knows w _ ?_
  refine c_BytesK.call (As := []) (lawStart w) trivial fun q m1 w2 hk hm hq C => ⟨_, _, _, _, rfl, hk.size, ?_⟩
  refine C.gives (c_num 0) fun w8 k8 C => ⟨_, rfl, k8.size, ?_⟩
  rw [if_pos (by decide)]
  refine ⟨_, _, run_str (P := Try.prog) (e := 5) Try.underlying66 Try.underlying5 Try.underlying9 (C.src hq) ⟨_, _, rfl⟩, Nat.le_refl _, ?_⟩
  have ht : ((toBA kB).toList == (ByteArray.mk #[OfNat.ofNat 6, OfNat.ofNat 1, OfNat.ofNat 2, OfNat.ofNat 172, OfNat.ofNat 2]).toList) = true := beq_self_eq_true (toBA kB).toList
  rw [ht, if_pos (by decide)]
  refine C.gives (c_Word 6 (by decide)) fun w13 k13 C => ⟨_, rfl, k13.size, ?_, ctx_bel0 C⟩
  have hw : ((toBA (wordL 6)).toList == (ByteArray.mk #[OfNat.ofNat 65, OfNat.ofNat 99, OfNat.ofNat 99, OfNat.ofNat 101, OfNat.ofNat 112, OfNat.ofNat 116]).toList) = true := by
    rw [wordL6 rfl]; exact beq_self_eq_true (toBA [65, 99, 99, 101, 112, 116]).toList
  rw [hw]; rfl
end Go.Proofs
