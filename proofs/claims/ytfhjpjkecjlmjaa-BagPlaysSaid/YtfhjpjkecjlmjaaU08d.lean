import Derived.Test.YtfhjpjkecjlmjaaU08c
import Derived.Test.YtfhjpjkecjlmjaaXStr
set_option linter.unusedVariables false
set_option linter.unusedSimpArgs false
set_option maxRecDepth 10000
namespace Go.Proofs
open Go X RowKit
/-! ### no bag, and one that nobody made -/
abbrev zeroV : Value := Pc.V ⟨0, 0, 0, 0, [], false⟩ none 0
theorem d_none (b : Nat) : Ctr Try.prog 25 #[.pointer (some ⟨b, 0, none⟩)] noMem [blk b nilB 65] (fun _ : Unit => .bool true) (fun _ _ => True) (fun _ => [blk b nilB 65]) := c_none b _ ⟨_, _, _, rfl⟩ 0 false 65
theorem n_none : Ctr Try.prog 25 #[.pointer none] noMem [] (fun _ : Unit => .bool true) (fun _ _ => True) (fun _ => []) :=
  Ctr.mk fun w F m C _ => x_nil_none w _ (Ctr.ret () rfl trivial C)

theorem d_find (b : Nat) (i : Int) : Ctr Try.prog 30 #[.pointer (some ⟨b, 0, none⟩), .int .i64 i] noMem [blk b nilB 65] (fun _ : Unit => .tuple #[.pointer none, .int .i64 1]) (fun _ _ => True) (fun _ => [blk b nilB 65]) := by
  refine Ctr.mk fun w F m C _ => x_bag_Bag_find _ i w _ ?_
  refine (d_none b).call C trivial fun _ m1 w2 hk hm _ C => ⟨_, rfl, hk.size, ?_⟩
  rw [if_pos rfl]
  exact Ctr.ret () rfl trivial C
theorem d_Look (b : Nat) (i : Int) : Ctr Try.prog 15 #[.pointer (some ⟨b, 0, none⟩), .int .i64 i] noMem [blk b nilB 65] (fun _ : Unit => .tuple #[zeroV, .int .i64 1]) (fun _ _ => True) (fun _ => [blk b nilB 65]) := by
  refine Ctr.mk fun w F m C _ => x_bag_Bag_Look _ i w _ fun w1 L1 h1 g1 => ?_
  replace C := C.hidL h1 g1
  refine (d_find b i).call C trivial fun _ m1 w4 hk hm _ C => ⟨_, _, rfl, hk, ?_⟩
  rw [if_pos (by decide)]
  exact fun w2 h2 => Ctr.ret () rfl trivial (C.hid0 h2)
theorem d_Take (b : Nat) (i : Int) : Ctr Try.prog 12 #[.pointer (some ⟨b, 0, none⟩), .int .i64 i] noMem [blk b nilB 65] (fun _ : Unit => .tuple #[zeroV, .int .i64 1]) (fun _ _ => True) (fun _ => [blk b nilB 65]) := by
  refine Ctr.mk fun w F m C _ => x_bag_Bag_Take _ i w _ fun w1 L1 h1 g1 => ?_
  replace C := C.hidL h1 g1
  refine (d_Look b i).call C trivial fun _ m1 w4 hk hm _ C => ⟨_, _, _, _, _, _, _, _, _, rfl, hk, ?_⟩
  rw [if_neg (by decide)]
  exact fun w2 h2 => Ctr.ret () rfl trivial (C.hid0 h2)
theorem d_Twice (b : Nat) (i : Int) : Ctr Try.prog 13 #[.pointer (some ⟨b, 0, none⟩), .int .i64 i] noMem [blk b nilB 65] (fun _ : Unit => .int .i64 1) (fun _ _ => True) (fun _ => [blk b nilB 65]) := by
  refine Ctr.mk fun w F m C _ => x_bag_Bag_Twice _ i w _ ?_
  refine (d_find b i).call C trivial fun _ m1 w4 hk hm _ C => ⟨_, _, rfl, hk.size, ?_⟩
  rw [if_pos (by decide)]
  exact Ctr.ret () rfl trivial C
theorem d_Spoil (b : Nat) (i a k : Int) : Ctr Try.prog 14 #[.pointer (some ⟨b, 0, none⟩), .int .i64 i, .int .i64 a, .int .u32 k] noMem [blk b nilB 65] (fun _ : Unit => .int .i64 1) (fun _ _ => True) (fun _ => [blk b nilB 65]) := by
  refine Ctr.mk fun w F m C _ => x_bag_Bag_Spoil _ i a k w _ ?_
  refine (d_find b i).call C trivial fun _ m1 w4 hk hm _ C => ⟨_, _, rfl, hk.size, ?_⟩
  rw [if_pos (by decide)]
  exact Ctr.ret () rfl trivial C
theorem d_Len (b : Nat) : Ctr Try.prog 23 #[.pointer (some ⟨b, 0, none⟩)] noMem [blk b nilB 65] (fun _ : Unit => .int .i64 0) (fun _ _ => True) (fun _ => [blk b nilB 65]) := by
  refine Ctr.mk fun w F m C _ => x_bag_Bag_Len _  w _ ?_
  refine (d_none b).call C trivial fun _ m1 w4 hk hm _ C => ⟨_, rfl, hk.size, ?_⟩
  rw [if_pos rfl]
  exact Ctr.ret () rfl trivial C
theorem d_All (b : Nat) : Ctr Try.prog 24 #[.pointer (some ⟨b, 0, none⟩)] noMem [blk b nilB 65] (fun _ : Unit => .slice none 0 0) (fun _ _ => True) (fun _ => [blk b nilB 65]) := by
  refine Ctr.mk fun w F m C _ => x_bag_Bag_All _  w _ ?_
  refine (d_none b).call C trivial fun _ m1 w4 hk hm _ C => ⟨_, rfl, hk.size, ?_⟩
  rw [if_pos rfl]
  exact Ctr.ret () rfl trivial C
theorem d_Put (b : Nat) (p : Pc) (q : Option Addr) (c : Nat) : Ctr Try.prog 10 #[.pointer (some ⟨b, 0, none⟩), p.V q c] noMem [blk b nilB 65] (fun _ : Unit => .int .i64 1) (fun _ _ => True) (fun _ => [blk b nilB 65]) := by
  refine Ctr.mk fun w F m C _ => x_bag_Bag_Put _ _ _ _ _ _ _ _ _ w _ fun w1 L1 h1 g1 => ?_
  replace C := C.hidL h1 g1
  refine (d_none b).call C trivial fun _ m1 w4 hk hm _ C => ⟨_, rfl, hk, ?_⟩
  rw [if_pos rfl]
  exact Ctr.ret () rfl trivial C
theorem n_find (i : Int) : Ctr Try.prog 30 #[.pointer none, .int .i64 i] noMem [] (fun _ : Unit => .tuple #[.pointer none, .int .i64 1]) (fun _ _ => True) (fun _ => []) := by
  refine Ctr.mk fun w F m C _ => x_nil_find i w _ ?_
  refine (n_none).call C trivial fun _ m1 w2 hk hm _ C => ⟨_, rfl, hk.size, ?_⟩
  rw [if_pos rfl]
  exact Ctr.ret () rfl trivial C
theorem n_Look (i : Int) : Ctr Try.prog 15 #[.pointer none, .int .i64 i] noMem [] (fun _ : Unit => .tuple #[zeroV, .int .i64 1]) (fun _ _ => True) (fun _ => []) := by
  refine Ctr.mk fun w F m C _ => x_nil_Look i w _ fun w1 L1 h1 g1 => ?_
  replace C := C.hidL h1 g1
  refine (n_find i).call C trivial fun _ m1 w4 hk hm _ C => ⟨_, _, rfl, hk, ?_⟩
  rw [if_pos (by decide)]
  exact fun w2 h2 => Ctr.ret () rfl trivial (C.hid0 h2)
theorem n_Take (i : Int) : Ctr Try.prog 12 #[.pointer none, .int .i64 i] noMem [] (fun _ : Unit => .tuple #[zeroV, .int .i64 1]) (fun _ _ => True) (fun _ => []) := by
  refine Ctr.mk fun w F m C _ => x_nil_Take i w _ fun w1 L1 h1 g1 => ?_
  replace C := C.hidL h1 g1
  refine (n_Look i).call C trivial fun _ m1 w4 hk hm _ C => ⟨_, _, _, _, _, _, _, _, _, rfl, hk, ?_⟩
  rw [if_neg (by decide)]
  exact fun w2 h2 => Ctr.ret () rfl trivial (C.hid0 h2)
theorem n_Twice (i : Int) : Ctr Try.prog 13 #[.pointer none, .int .i64 i] noMem [] (fun _ : Unit => .int .i64 1) (fun _ _ => True) (fun _ => []) := by
  refine Ctr.mk fun w F m C _ => x_nil_Twice i w _ ?_
  refine (n_find i).call C trivial fun _ m1 w4 hk hm _ C => ⟨_, _, rfl, hk.size, ?_⟩
  rw [if_pos (by decide)]
  exact Ctr.ret () rfl trivial C
theorem n_Spoil (i a k : Int) : Ctr Try.prog 14 #[.pointer none, .int .i64 i, .int .i64 a, .int .u32 k] noMem [] (fun _ : Unit => .int .i64 1) (fun _ _ => True) (fun _ => []) := by
  refine Ctr.mk fun w F m C _ => x_nil_Spoil i a k w _ ?_
  refine (n_find i).call C trivial fun _ m1 w4 hk hm _ C => ⟨_, _, rfl, hk.size, ?_⟩
  rw [if_pos (by decide)]
  exact Ctr.ret () rfl trivial C
theorem n_Len : Ctr Try.prog 23 #[.pointer none] noMem [] (fun _ : Unit => .int .i64 0) (fun _ _ => True) (fun _ => []) := by
  refine Ctr.mk fun w F m C _ => x_nil_Len  w _ ?_
  refine (n_none).call C trivial fun _ m1 w4 hk hm _ C => ⟨_, rfl, hk.size, ?_⟩
  rw [if_pos rfl]
  exact Ctr.ret () rfl trivial C
theorem n_All : Ctr Try.prog 24 #[.pointer none] noMem [] (fun _ : Unit => .slice none 0 0) (fun _ _ => True) (fun _ => []) := by
  refine Ctr.mk fun w F m C _ => x_nil_All  w _ ?_
  refine (n_none).call C trivial fun _ m1 w4 hk hm _ C => ⟨_, rfl, hk.size, ?_⟩
  rw [if_pos rfl]
  exact Ctr.ret () rfl trivial C
theorem n_Put (p : Pc) (q : Option Addr) (c : Nat) : Ctr Try.prog 10 #[.pointer none, p.V q c] noMem [] (fun _ : Unit => .int .i64 1) (fun _ _ => True) (fun _ => []) := by
  refine Ctr.mk fun w F m C _ => x_nil_Put _ _ _ _ _ _ _ _ w _ fun w1 L1 h1 g1 => ?_
  replace C := C.hidL h1 g1
  refine (n_none).call C trivial fun _ m1 w4 hk hm _ C => ⟨_, rfl, hk, ?_⟩
  rw [if_pos rfl]
  exact Ctr.ret () rfl trivial C

/-! ### the law's own functions -/
theorem own_gen (x : Nat) (hx : x = 11 ∨ x = 20) (p : Pc) (q : Option Addr) (c : Nat) (hs : p.bs.length ≤ 1000000) :
    Ctr Try.prog x #[p.V q c] (fun m => MSrc m 1 (.slice q p.bs.length c) p.bs.length (byV p.bs)) [] (fun z : Option Addr × Nat => p.V z.1 z.2) (fun _ _ => True) (fun z => [slB z.1 z.2 p.bs]) := by
  have key : ∀ (w : World) (F : List Nat) (m m' : Mem) (w1 : World) (L : List Nat), Ctx F m w w1 L m' [] → m.le m' → MSrc m 1 (.slice q p.bs.length c) p.bs.length (byV p.bs) → ∀ (a : Option Addr), 
      ∃ q' c' w2, Sem.run Try.prog (Builtin.append_ #[32, 32] 32 #[.slice a 0 0, .slice q p.bs.length c]) w1 = .ok (.slice q' p.bs.length c') w2 ∧ Kept L w1 w2 ∧ Ctx F m w w2 L m' [slB q' c' p.bs] := by
    intro w F m m' w1 L C hm hp a
    have C1 := C.slNil (q := a) (ty := 5) (sz := 1)
    obtain ⟨q', cap, w', hr, hk, C2⟩ := C1.app (P := Try.prog) (bytes := 1) (t := 32) (t2 := 32) 32 (by kernel_rfl) (C1.src (hp.mono hm)) (by omega) (byV_one p.bs)
    rw [Nat.zero_add] at hr C2
    exact ⟨q', cap, w', hr, hk, by simpa using C2⟩
  rcases hx with rfl | rfl

  · refine Ctr.mk fun w F m C hp => x_gemotlaw08_Own _ _ _ _ _ _ _ _ w _ ⟨[], facts_nil _ _, fun w2 L3 h2 g2 => ?_, fun w2 L3 h2 g2 => ?_⟩
    · have C1 := C.hidL h2 g2
      refine C1.gives (c_Proc _ _) fun w5 k5 C5 => ⟨_, _, rfl, k5, facts_nil _ _, ?_, facts_nil _ _, ?_⟩
      · refine C5.gives (c_Proc _ _) fun w9 k9 C9 => ⟨_, _, rfl, k9, facts_nil _ _, facts_nil _ _, ?_⟩
        obtain ⟨q', c', w15, hr, hk, C15⟩ := key w F m m _ _ (C9.newDrop [] 5) (Mem.le_refl _) hp (some ⟨w9.heap.size, 0, none⟩)
        exact ⟨q', _, c', w15, hr, hk, facts_nil _ _, fun w16 h16 => Ctr.ret (q', c') rfl trivial (C15.hid0 h16)⟩
      · have C6 := C5.newDrop [] 5
        refine C6.gives (c_Proc _ _) fun w9 k9 C9 => ⟨_, _, rfl, k9, facts_nil _ _, ?_⟩
        obtain ⟨q', c', w15, hr, hk, C15⟩ := key w F m m _ _ C9 (Mem.le_refl _) hp (some ⟨w5.heap.size, 0, none⟩)
        exact ⟨q', _, c', w15, hr, hk, facts_nil _ _, fun w16 h16 => Ctr.ret (q', c') rfl trivial (C15.hid0 h16)⟩
    · have C1 := (C.hidL h2 g2).newDrop [] 5
      refine ⟨facts_nil _ _, ?_⟩
      refine C1.gives (c_Proc _ _) fun w5 k5 C5 => ⟨_, _, rfl, k5, facts_nil _ _, ?_⟩
      refine C5.gives (c_Proc _ _) fun w9 k9 C9 => ⟨_, _, rfl, k9, facts_nil _ _, ?_⟩
      obtain ⟨q', c', w15, hr, hk, C15⟩ := key w F m m _ _ C9 (Mem.le_refl _) hp (some ⟨w2.heap.size, 0, none⟩)
      exact ⟨q', _, c', w15, hr, hk, facts_nil _ _, fun w16 h16 => Ctr.ret (q', c') rfl trivial (C15.hid0 h16)⟩
  · refine Ctr.mk fun w F m C hp => x_gemotlaw08_Ref _ _ _ _ _ _ _ _ w _ ⟨[], facts_nil _ _, fun w2 L3 h2 g2 => ?_, fun w2 L3 h2 g2 => ?_⟩
    · have C1 := C.hidL h2 g2
      refine C1.gives (c_RefProc _ _) fun w5 k5 C5 => ⟨_, _, rfl, k5, facts_nil _ _, ?_, facts_nil _ _, ?_⟩
      · refine C5.gives (c_RefProc _ _) fun w9 k9 C9 => ⟨_, _, rfl, k9, facts_nil _ _, facts_nil _ _, ?_⟩
        obtain ⟨q', c', w15, hr, hk, C15⟩ := key w F m m _ _ (C9.newDrop [] 5) (Mem.le_refl _) hp (some ⟨w9.heap.size, 0, none⟩)
        exact ⟨q', _, c', w15, hr, hk, facts_nil _ _, fun w16 h16 => Ctr.ret (q', c') rfl trivial (C15.hid0 h16)⟩
      · have C6 := C5.newDrop [] 5
        refine C6.gives (c_RefProc _ _) fun w9 k9 C9 => ⟨_, _, rfl, k9, facts_nil _ _, ?_⟩
        obtain ⟨q', c', w15, hr, hk, C15⟩ := key w F m m _ _ C9 (Mem.le_refl _) hp (some ⟨w5.heap.size, 0, none⟩)
        exact ⟨q', _, c', w15, hr, hk, facts_nil _ _, fun w16 h16 => Ctr.ret (q', c') rfl trivial (C15.hid0 h16)⟩
    · have C1 := (C.hidL h2 g2).newDrop [] 5
      refine ⟨facts_nil _ _, ?_⟩
      refine C1.gives (c_RefProc _ _) fun w5 k5 C5 => ⟨_, _, rfl, k5, facts_nil _ _, ?_⟩
      refine C5.gives (c_RefProc _ _) fun w9 k9 C9 => ⟨_, _, rfl, k9, facts_nil _ _, ?_⟩
      obtain ⟨q', c', w15, hr, hk, C15⟩ := key w F m m _ _ C9 (Mem.le_refl _) hp (some ⟨w2.heap.size, 0, none⟩)
      exact ⟨q', _, c', w15, hr, hk, facts_nil _ _, fun w16 h16 => Ctr.ret (q', c') rfl trivial (C15.hid0 h16)⟩
theorem c_Own (p : Pc) (q : Option Addr) (c : Nat) (hs : p.bs.length ≤ 1000000) :
    Ctr Try.prog 11 #[p.V q c] (fun m => MSrc m 1 (.slice q p.bs.length c) p.bs.length (byV p.bs)) [] (fun z : Option Addr × Nat => p.V z.1 z.2) (fun _ _ => True) (fun z => [slB z.1 z.2 p.bs]) := own_gen 11 (.inl rfl) p q c hs
theorem c_Ref (p : Pc) (q : Option Addr) (c : Nat) (hs : p.bs.length ≤ 1000000) :
    Ctr Try.prog 20 #[p.V q c] (fun m => MSrc m 1 (.slice q p.bs.length c) p.bs.length (byV p.bs)) [] (fun z : Option Addr × Nat => p.V z.1 z.2) (fun _ _ => True) (fun z => [slB z.1 z.2 p.bs]) := own_gen 20 (.inr rfl) p q c hs
theorem run_str_ {F0 : List Nat} {m0 : Mem} {w0 w : World} {L : List Nat} {m : Mem} {As : List Asn} (C : Ctx F0 m0 w0 w L m As) {q : Option Addr} {c : Nat} {bs : List UInt8} (h : MSrc m 1 (.slice q bs.length c) bs.length (byV bs)) :
    (convert 32 9 (.slice q bs.length c)).run Try.prog w = .ok (.string (toBA bs)) w := run_str Try.underlying32 Try.underlying5 Try.underlying9 (C.src h) ⟨_, _, rfl⟩
/-- two parcels -/
def sameP (p r : Pc) : Bool := ((((p.fn == r.fn) && (p.fl == r.fl)) && ((p.tn == r.tn) && (p.tl == r.tl))) && decide (p.bs = r.bs) && (p.bad == r.bad))
theorem sameP_self (p : Pc) : sameP p p = true := by simp [sameP]
theorem sameP_iff (p r : Pc) : sameP p r = true ↔ p = r := by
  constructor
  · intro h
    obtain ⟨a1, a2, a3, a4, a5, a6⟩ := p
    obtain ⟨b1, b2, b3, b4, b5, b6⟩ := r
    simp only [sameP, Bool.and_eq_true, beq_iff_eq, decide_eq_true_eq] at h
    obtain ⟨⟨⟨⟨h1, h2⟩, h3, h4⟩, h5⟩, h6⟩ := h
    subst h1; subst h2; subst h3; subst h4; subst h5; subst h6; rfl
  · rintro rfl; exact sameP_self p
theorem c_Same (p r : Pc) (q q' : Option Addr) (c c' : Nat) :
    Ctr Try.prog 19 #[p.V q c, r.V q' c'] (fun m => MSrc m 1 (.slice q p.bs.length c) p.bs.length (byV p.bs) ∧ MSrc m 1 (.slice q' r.bs.length c') r.bs.length (byV r.bs)) [] (fun _ : Unit => .bool (sameP p r)) (fun _ _ => True) (fun _ => []) := by
  refine Ctr.mk fun w F m C hp => x_gemotref08_Same _ _ _ _ _ _ _ _ _ _ _ _ _ _ _ _ w _ ?_
  by_cases h : (((p.fn == r.fn) && (p.fl == r.fl)) && ((p.tn == r.tn) && (p.tl == r.tl))) = true
  · rw [if_pos (by rw [h]; rfl)]
    intro w2 L3 h2 g2
    replace C := C.hidL h2 g2
    refine ⟨_, w2, run_str_ C hp.1, kept_refl _ _, _, w2, run_str_ C hp.2, kept_refl _ _, ?_⟩
    refine Ctr.ret () ?_ trivial C
    rw [toBA_beq]; unfold sameP; rw [h]
  · rw [if_neg (by simpa using h)]
    intro w2 h2
    refine Ctr.ret () ?_ trivial (C.hid0 h2)
    unfold sameP; rw [eq_false_of_ne_true h]; simp
/-- a bag at work, by its pieces, at the start -/
theorem c_knows : Ctr Try.prog 8 #[] noMem [] (fun _ : Unit => .bool true) (fun _ _ => True) (fun _ => []) := by
  refine Ctr.mk fun w F m C _ => x_gemotlaw08_knows w _ ?_
  refine (c_New 2).call C trivial fun b m1 w2 hk hm _ C => ⟨_, rfl, hk.size, ?_⟩
  obtain ⟨C1, hm1⟩ := C.newShare (byV [97, 98, 99, 100]) 5 (4, 5)
  refine ⟨some ⟨w2.heap.size, 0, none⟩, 4, 4, _, Lib.run_convert_bytes_const (P := Try.prog) w2 32 5 #[.int .u8 97, .int .u8 98, .int .u8 99, .int .u8 100] 4 4 Try.underlying32 Try.underlying5, by simp, ?_⟩
  have hsrc1 : MSrc (m1.plus w2.heap.size (byV [97, 98, 99, 100])) 1 (.slice (some ⟨w2.heap.size, 0, none⟩) 4 4) 4 (byV [97, 98, 99, 100]) :=
    MSrc.mk (by simp [byV]) (fun a ha => by injection ha with ha; subst ha; exact Mem.plus_cells _ _ _ _ _ fun j v h => by rw [Nat.zero_add]; exact h) (fun h => by cases h)
  obtain ⟨qb, cb, C1⟩ := bagO C1
  refine (c_PutOk b 2 (by omega) [] qb cb ⟨0, 0, 0, 0, [97, 98, 99, 100], false⟩ _ 4 (by simp) (by simp)).call C1 hsrc1 fun x m2 w9 hk hm2 _ C => ⟨_, rfl, hk.size, ?_⟩
  obtain ⟨C2, hm3⟩ := Ctx.newShare C (byV [120]) 5 (1, 2)
  refine ⟨some ⟨w9.heap.size, 0, none⟩, 1, 1, _, Lib.run_convert_bytes_const (P := Try.prog) w9 32 5 #[.int .u8 120] 1 1 Try.underlying32 Try.underlying5, by simp, ?_⟩
  have hsrc2 : MSrc (m2.plus w9.heap.size (byV [120])) 1 (.slice (some ⟨w9.heap.size, 0, none⟩) 1 1) 1 (byV [120]) :=
    MSrc.mk (by simp [byV]) (fun a ha => by injection ha with ha; subst ha; exact Mem.plus_cells _ _ _ _ _ fun j v h => by rw [Nat.zero_add]; exact h) (fun h => by cases h)
  refine (c_PutOk b 2 (by omega) [⟨⟨0, 0, 0, 0, [97, 98, 99, 100], false⟩, x.1, 4⟩] x.2.1 x.2.2 ⟨0, 0, 0, 0, [120], false⟩ _ 1 (by simp) (by simp)).call C2 hsrc2 fun y m4 w16 hk hm4 _ C => ⟨_, rfl, hk.size, ?_⟩
  have C3 := C.perm (List.Perm.cons _ (List.Perm.cons _ (List.Perm.swap _ _ _)))
  refine (c_Take b 2 [⟨⟨0, 0, 0, 0, [97, 98, 99, 100], false⟩, x.1, 4⟩, ⟨⟨0, 0, 0, 0, [120], false⟩, y.1, 1⟩] y.2.1 y.2.2 0 (by simp) (by simp) (by simp)).call C3 trivial fun z m5 w19 hk hm5 _ C => ⟨_, _, _, _, _, _, _, _, _, rfl, hk.size, fun w29 L30 h29 g29 => ?_⟩
  replace C := Ctx.hidL C h29 g29
  refine Ctx.gives C (c_num 0) fun w32 k32 C => ⟨_, rfl, k32, ?_⟩
  refine Ctx.gives C (c_num 0) fun w35 k35 C => ⟨_, rfl, k35, ?_⟩
  refine Ctx.gives C (c_num 0) fun w38 k38 C => ⟨_, rfl, k38, ?_⟩
  rw [if_pos (by decide)]
  have C4 := Ctx.third C
  refine ⟨toBA [97, 98, 99, 100], w38, run_str Try.underlying32 Try.underlying5 Try.underlying9 (Ctx.slSrc C4) ⟨_, _, rfl⟩, kept_refl _ _, ?_⟩
  have hb : (toBA [97, 98, 99, 100]).toList = [97, 98, 99, 100] := toBA_list _
  have hcond : ((true && ((toBA [97, 98, 99, 100]).toList == (ByteArray.mk #[OfNat.ofNat 97, OfNat.ofNat 98, OfNat.ofNat 99, OfNat.ofNat 100]).toList)) == true) = true := by
    show ((true && ((toBA [97, 98, 99, 100]).toList == (toBA [97, 98, 99, 100]).toList)) == true) = true
    rw [hb]; rfl
  rw [if_pos hcond]
  refine (c_Len b y.2.1 1 y.2.2 2).call C trivial fun _ m6 w43 hk hm6 _ C => ⟨_, rfl, hk, ?_⟩
  exact Ctr.ret () rfl trivial (C.sub fun F hF _ => ⟨[], rfl, by simp⟩)
end Go.Proofs
