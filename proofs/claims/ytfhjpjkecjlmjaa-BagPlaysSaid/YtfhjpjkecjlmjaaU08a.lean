import Derived.Test.YtfhjpjkecjlmjaaV08a
import Derived.Test.YtfhjpjkecjlmjaaXArgs
set_option linter.unusedVariables false
set_option linter.unusedSimpArgs false
set_option maxRecDepth 10000
namespace Go.Proofs
open Go X RowKit
/-- a parcel -/
structure Pc where (fn fl tn tl : Int) (bs : List UInt8) (bad : Bool)
def Pc.row (p : Pc) (q : Option Addr) (c : Nat) : List Value := [.int .u8 p.fn, .int .u16 p.fl, .int .u8 p.tn, .int .u16 p.tl, .slice q p.bs.length c, .bool p.bad]
@[reducible] def Pc.V (p : Pc) (q : Option Addr) (c : Nat) : Value := .agg #[.int .u8 p.fn, .int .u16 p.fl, .int .u8 p.tn, .int .u16 p.tl, .slice q p.bs.length c, .bool p.bad]
@[reducible] def nilB : List Value := [.slice none 0 0, .int .i64 0, .bool false]
abbrev slB (q : Option Addr) (c : Nat) (bs : List UInt8) : Asn := slA (.slice q bs.length c) bs.length (byV bs) 5 1
/-- no memory is asked, none is turned -/
abbrev noMem : Mem → Prop := fun _ => True

theorem c_num (n : Int) : Gives Try.prog 16 #[.int .i64 n] (.int .i64 n) := fun w => x_gemotlaw08_num n w _ ⟨rfl, below_refl _ _⟩
theorem c_Proc (n l : Int) : Gives Try.prog 28 #[.agg #[.int .u8 n, .int .u16 l]] (.agg #[.int .u8 n, .int .u16 l]) := fun w => x_gemotlaw02_Proc n l w _ fun w1 h1 => ⟨rfl, hid_below h1 (by simp) (Nat.le_refl _)⟩
theorem c_RefProc (n l : Int) : Gives Try.prog 18 #[.agg #[.int .u8 n, .int .u16 l]] (.agg #[.int .u8 n, .int .u16 l]) := fun w => x_gemotlaw02_RefProc n l w _ fun w1 h1 => ⟨rfl, hid_below h1 (by simp) (Nat.le_refl _)⟩

theorem c_Clone (q : Option Addr) (c : Nat) (bs : List UInt8) (hs : bs.length ≤ 1000000) :
    Ctr Try.prog 37 #[.slice q bs.length c] (fun m => MSrc m 1 (.slice q bs.length c) bs.length (byV bs)) [] (fun x : Option Addr × Nat => .slice x.1 bs.length x.2) (fun _ _ => True) (fun x => [slB x.1 x.2 bs]) := by
  refine Ctr.mk fun w F m C hp => x_Clone q bs.length c w _ ?_
  by_cases hq : q = none
  · subst hq
    have h0 : bs.length = 0 := hp.none_len.1
    have hb : bs = [] := List.eq_nil_of_length_eq_zero h0
    subst hb
    rw [if_pos (by rfl)]
    exact Ctr.ret (none, 0) rfl trivial C.slNil
  · rw [if_neg (by cases q with | none => exact absurd rfl hq | some a => simp)]
    have C1 := (C.newDrop [] 5).slNil (q := some ⟨w.heap.size, 0, none⟩) (ty := 5) (sz := 1)
    obtain ⟨q', cap, w', hr, hk, C2⟩ := C1.app (P := Try.prog) (bytes := 1) (t := 32) (t2 := 32) 32 (by kernel_rfl) (C1.src hp) (by omega) (byV_one bs)
    rw [Nat.zero_add] at hr C2
    exact ⟨q', bs.length, cap, w', hr, hk.size, Ctr.ret (q', cap) rfl trivial (by simpa using C2)⟩

theorem c_apart (p : Pc) (q : Option Addr) (c : Nat) (hs : p.bs.length ≤ 1000000) :
    Ctr Try.prog 27 #[p.V q c] (fun m => MSrc m 1 (.slice q p.bs.length c) p.bs.length (byV p.bs)) [] (fun x : Option Addr => p.V x p.bs.length) (fun _ _ => True) (fun x => [slB x p.bs.length p.bs]) := by
  refine Ctr.mk fun w F m C hp => x_bag_apart _ _ _ _ _ _ _ _ w _ fun w1 L h1 h2 => ?_
  have C1 := C.hidL h1 h2
  refine (c_Clone q c p.bs hs).call C1 hp fun ⟨q', c'⟩ m' w4 hk hm _ C4 => ⟨q', p.bs.length, c', rfl, hk, ?_⟩
  have hcap := Ctx.slCap C4
  refine ⟨by omega, by omega, by omega, by omega, fun w8 h8 => ?_⟩
  have C8 := C4.hid0 h8
  simp only [Int.toNat_natCast, cutA_zero]
  exact Ctr.ret q' rfl trivial (Ctx.slTrim C8)

/-! ### the program's bag, by pieces -/
theorem c_none (b : Nat) (v : Value) (hv : ∃ q n c, v = .slice q n c) (k : Int) (made : Bool) (ty : TypeId) :
    Ctr Try.prog 25 #[.pointer (some ⟨b, 0, none⟩)] noMem [blk b [v, .int .i64 k, .bool made] ty] (fun _ : Unit => .bool (!made)) (fun _ _ => True) (fun _ => [blk b [v, .int .i64 k, .bool made] ty]) := by
  refine Ctr.mk fun w F m C _ => x_bag_Bag_none _ w _ ⟨made, ?_, Ctr.ret () (by simp) trivial C⟩
  rw [Addr.add_mid]; exact C.blkCell rfl
theorem c_len (b : Nat) (q : Option Addr) (n c : Nat) (r : List Value) (ty : TypeId) :
    Ctr Try.prog 26 #[.pointer (some ⟨b, 0, none⟩)] noMem [blk b (.slice q n c :: r) ty] (fun _ : Unit => .int .i64 n) (fun _ _ => True) (fun _ => [blk b (.slice q n c :: r) ty]) := by
  refine Ctr.mk fun w F m C _ => x_bag_row_len _ w _ ⟨q, n, c, ?_, Ctr.ret () rfl trivial C⟩
  rw [Addr.add_mid]; exact C.blkCell rfl
theorem c_at_no (b : Nat) (q : Option Addr) (n c : Nat) (r : List Value) (ty : TypeId) (i : Int) (h : i < 0 ∨ (n : Int) ≤ i) :
    Ctr Try.prog 38 #[.pointer (some ⟨b, 0, none⟩), .int .i64 i] noMem [blk b (.slice q n c :: r) ty] (fun _ : Unit => .pointer none) (fun _ _ => True) (fun _ => [blk b (.slice q n c :: r) ty]) := by
  refine Ctr.mk fun w F m C _ => x_bag_row_at _ i w _ ?_
  by_cases h0 : i < 0
  · rw [if_neg (by simp [h0])]
    exact Ctr.ret () rfl trivial C
  · rw [if_pos (by simp [h0])]
    refine ⟨q, n, c, by rw [Addr.add_mid]; exact C.blkCell rfl, ?_⟩
    rw [if_pos (by simp; omega)]
    exact Ctr.ret () rfl trivial C
theorem c_at (b : Nat) (a : Addr) (n c : Nat) (r : List Value) (ty : TypeId) (i : Int) (h0 : 0 ≤ i) (h1 : i < n) :
    Ctr Try.prog 38 #[.pointer (some ⟨b, 0, none⟩), .int .i64 i] noMem [blk b (.slice (some a) n c :: r) ty] (fun _ : Unit => .pointer (some (a.add (i.toNat * 6)))) (fun _ _ => True) (fun _ => [blk b (.slice (some a) n c :: r) ty]) := by
  refine Ctr.mk fun w F m C _ => x_bag_row_at _ i w _ ?_
  rw [if_pos (by simp; omega)]
  refine ⟨some a, n, c, by rw [Addr.add_mid]; exact C.blkCell rfl, ?_⟩
  rw [if_neg (by simp; omega)]
  refine ⟨some a, n, c, by rw [Addr.add_mid]; exact C.blkCell rfl, h0, h1, ?_⟩
  rw [onSome_some]
  exact Ctr.ret () rfl trivial C
/-- a bag's own block -/
abbrev bagB (b : Nat) (v : Value) (k : Int) : Asn := blk b [v, .int .i64 k, .bool true] 65
theorem c_find_no (b : Nat) (q : Option Addr) (n c : Nat) (k : Int) (i : Int) (h : i < 0 ∨ (n : Int) ≤ i) :
    Ctr Try.prog 30 #[.pointer (some ⟨b, 0, none⟩), .int .i64 i] noMem [bagB b (.slice q n c) k] (fun _ : Unit => .tuple #[.pointer none, .int .i64 3]) (fun _ _ => True) (fun _ => [bagB b (.slice q n c) k]) := by
  refine Ctr.mk fun w F m C _ => x_bag_Bag_find _ i w _ ?_
  refine (c_none b _ ⟨_, _, _, rfl⟩ k true 65).call C trivial fun _ m' w2 hk hm _ C => ⟨_, rfl, hk.size, ?_⟩
  rw [if_neg (by simp)]
  refine (c_at_no b q n c _ 65 i h).call C trivial fun _ m'' w5 hk hm _ C => ⟨_, rfl, hk.size, ?_⟩
  rw [if_neg (by simp)]
  exact Ctr.ret () rfl trivial C
theorem c_find (b : Nat) (a : Addr) (n c : Nat) (k : Int) (i : Int) (h0 : 0 ≤ i) (h1 : i < n) :
    Ctr Try.prog 30 #[.pointer (some ⟨b, 0, none⟩), .int .i64 i] noMem [bagB b (.slice (some a) n c) k] (fun _ : Unit => .tuple #[.pointer (some (a.add (i.toNat * 6))), .int .i64 0]) (fun _ _ => True) (fun _ => [bagB b (.slice (some a) n c) k]) := by
  refine Ctr.mk fun w F m C _ => x_bag_Bag_find _ i w _ ?_
  refine (c_none b _ ⟨_, _, _, rfl⟩ k true 65).call C trivial fun _ m' w2 hk hm _ C => ⟨_, rfl, hk.size, ?_⟩
  rw [if_neg (by simp)]
  refine (c_at b a n c _ 65 i h0 h1).call C trivial fun _ m'' w5 hk hm _ C => ⟨_, rfl, hk.size, ?_⟩
  rw [if_pos (by simp)]
  exact Ctr.ret () rfl trivial C
end Go.Proofs
