import Derived.Test.YtmfmihkjkgifiaaV10a
import Derived.Test.YtmfmihkjkgifiaaXMap
set_option linter.unusedVariables false
set_option linter.unusedSimpArgs false
set_option maxRecDepth 10000
namespace Go.Proofs
open Go X RowKit
/-- no memory is asked, none is turned -/
abbrev noMem : Mem → Prop := fun _ => True
/-- a body that lies somewhere -/
structure Br where (bs : List UInt8) (q : Option Addr) (c : Nat)
@[reducible] def Br.V (b : Br) : Value := .slice b.q b.bs.length b.c
def BrM (m : Mem) (b : Br) : Prop := MSrc m 1 b.V b.bs.length (byV b.bs) ∧ b.bs.length ≤ 1000000
theorem BrM.mono {m m' : Mem} {b : Br} (h : BrM m b) (hm : m.le m') : BrM m' b := ⟨h.1.mono hm, h.2⟩
/-- one that waits -/
structure Sr where (seq : Int) (b : Br) (told : Bool) (at_ : Int)
def Sr.row (s : Sr) : List Value := [.int .u64 s.seq, s.b.V, .bool s.told, .int .i64 s.at_]
def rows (l : List Sr) : List Value := l.flatMap Sr.row
theorem row_len (r : Sr) : r.row.length = 4 := rfl
theorem rows_len (l : List Sr) : (rows l).length = l.length * 4 := flat_len row_len l
theorem rows_append (a b : List Sr) : rows (a ++ b) = rows a ++ rows b := by simp [rows]
theorem row_one (r : Sr) : ∀ u ∈ r.row, oneC u = true := by
  intro u h
  simp only [Sr.row, List.mem_cons, List.not_mem_nil, or_false] at h
  rcases h with rfl | rfl | rfl | rfl <;> rfl
theorem rows_one (l : List Sr) : ∀ u ∈ rows l, oneC u = true := flat_one row_one l
abbrev rowsA (q : Option Addr) (c : Nat) (l : List Sr) : Asn := slA (.slice q l.length c) l.length (rows l) 86 4
/-- a link -/
structure Lk where (mn ml pn pl again next want : Int) (W : List Sr) (E : List (Int × Br)) (owed : Bool)
@[reducible] def Lk.row (x : Lk) (v mv : Value) : List Value := [.int .u8 x.mn, .int .u16 x.ml, .int .u8 x.pn, .int .u16 x.pl, .int .i64 x.again, .int .u64 x.next, .int .u64 x.want, v, mv, .bool x.owed]
abbrev lkB (b : Nat) (x : Lk) (v mv : Value) : Asn := blk b (x.row v mv) 82
abbrev kU (n : Int) : Value := .int .u64 n
abbrev earlyA (mb : Nat) (E : List (Int × Br)) : Asn := mapA mb kU Br.V E
def lkA (b : Nat) (x : Lk) : Asn := Asn.ex fun y : Option Addr × Nat × Nat => Asn.all [lkB b x (.slice y.1 x.W.length y.2.1) (.map (some y.2.2)), rowsA y.1 y.2.1 x.W, earlyA y.2.2 x.E]
def LkM (m : Mem) (x : Lk) : Prop := (∀ s ∈ x.W, BrM m s.b) ∧ ∀ e ∈ x.E, BrM m e.2
theorem LkM.mono {m m' : Mem} {x : Lk} (h : LkM m x) (hm : m.le m') : LkM m' x := ⟨fun s hs => (h.1 s hs).mono hm, fun e he => (h.2 e he).mono hm⟩
section
variable {F0 : List Nat} {m0 : Mem} {w0 w : World} {L : List Nat} {m : Mem} {As : List Asn}
theorem lkO {b : Nat} {x : Lk} (C : Ctx F0 m0 w0 w L m (lkA b x :: As)) : ∃ q c mb, Ctx F0 m0 w0 w L m (lkB b x (.slice q x.W.length c) (.map (some mb)) :: rowsA q c x.W :: earlyA mb x.E :: As) := by
  obtain ⟨⟨q, c, mb⟩, C⟩ := C.ex
  exact ⟨q, c, mb, C.all⟩
theorem lkI {b : Nat} {x : Lk} {q : Option Addr} {c mb : Nat} (C : Ctx F0 m0 w0 w L m (lkB b x (.slice q x.W.length c) (.map (some mb)) :: rowsA q c x.W :: earlyA mb x.E :: As)) : Ctx F0 m0 w0 w L m (lkA b x :: As) :=
  Ctx.exI (q, c, mb) (Ctx.allI C)
end
theorem c_num (n : Int) : Gives Try.prog 12 #[.int .i64 n] (.int .i64 n) := fun w => x_gemotlaw10_num n w _ ⟨rfl, below_refl _ _⟩
theorem c_Proc (n l : Int) : Gives Try.prog 10 #[.agg #[.int .u8 n, .int .u16 l]] (.agg #[.int .u8 n, .int .u16 l]) := fun w => x_gemotlaw02_Proc n l w _ fun w1 h1 => ⟨rfl, hid_below h1 (by simp) (Nat.le_refl _)⟩

theorem c_Clone (b : Br) :
    Ctr Try.prog 30 #[b.V] (fun m => BrM m b) [] (fun x : Br => x.V) (fun x m => x.bs = b.bs ∧ BrM m x) (fun x => []) := by
  refine Ctr.mk fun w F m C hp => x_Clone b.q b.bs.length b.c w _ ?_
  obtain ⟨hp, hs⟩ := hp
  by_cases hq : b.q = none
  · rw [if_pos (by simp [hq])]
    have h0 : b.bs.length = 0 := by simp only [Br.V, hq] at hp; exact hp.none_len.1
    have hb : b.bs = [] := List.eq_nil_of_length_eq_zero h0
    exact Ctr.ret ⟨[], none, 0⟩ rfl ⟨hb.symm, .nil .., by simp⟩ C
  · rw [if_neg (by cases h : b.q with | none => exact absurd h hq | some a => simp)]
    have C1 := (C.newDrop [] 5).slNil (q := some ⟨w.heap.size, 0, none⟩) (ty := 5) (sz := 1)
    obtain ⟨q', cap, w', hr, hk, C2⟩ := C1.app (P := Try.prog) (bytes := 1) (t := 35) (t2 := 35) 35 (by kernel_rfl) (C1.src hp) (by omega) (byV_one b.bs)
    rw [Nat.zero_add] at hr C2
    obtain ⟨m', hm, hM, C3⟩ := C2.slShare
    exact ⟨q', b.bs.length, cap, w', hr, hk.size, Ctr.ret ⟨b.bs, q', cap⟩ rfl ⟨rfl, by simpa using hM, hs⟩ C3⟩

/-! ### looks -/
theorem c_none (b : Nat) (x : Lk) : Ctr Try.prog 29 #[.pointer (some ⟨b, 0, none⟩)] noMem [lkA b x] (fun _ : Unit => .bool false) (fun _ _ => True) (fun _ => [lkA b x]) := by
  refine Ctr.mk fun w F m C _ => x_link_Link_none _ w _ ?_
  obtain ⟨q, c, mb, C⟩ := lkO C
  exact ⟨some mb, C.blkCell (j := 8) rfl, Ctr.ret () rfl trivial (lkI C)⟩
theorem c_Waiting (b : Nat) (x : Lk) : Ctr Try.prog 22 #[.pointer (some ⟨b, 0, none⟩)] noMem [lkA b x] (fun _ : Unit => .int .i64 x.W.length) (fun _ _ => True) (fun _ => [lkA b x]) := by
  refine Ctr.mk fun w F m C _ => x_link_Link_Waiting _ w _ ?_
  refine (c_none b x).call C trivial fun _ m1 w2 hk hm _ C => ⟨_, rfl, hk.size, ?_⟩
  rw [if_neg (by simp)]
  obtain ⟨q, c, mb, C⟩ := lkO C
  exact ⟨q, x.W.length, c, by rw [Addr.add_mid]; exact C.blkCell (j := 7) rfl, Ctr.ret () rfl trivial (lkI C)⟩
theorem c_Idle (b : Nat) (x : Lk) : Ctr Try.prog 23 #[.pointer (some ⟨b, 0, none⟩)] noMem [lkA b x] (fun _ : Unit => .bool (((x.W.length : Nat) : Int) == 0)) (fun _ _ => True) (fun _ => [lkA b x]) := by
  refine Ctr.mk fun w F m C _ => x_link_Link_Idle _ w _ ?_
  refine (c_none b x).call C trivial fun _ m1 w2 hk hm _ C => ⟨_, rfl, hk.size, ?_⟩
  rw [if_pos (by simp)]
  obtain ⟨q, c, mb, C⟩ := lkO C
  exact ⟨q, x.W.length, c, by rw [Addr.add_mid]; exact C.blkCell (j := 7) rfl, Ctr.ret () (by simp) trivial (lkI C)⟩
theorem c_Want (b : Nat) (x : Lk) : Ctr Try.prog 24 #[.pointer (some ⟨b, 0, none⟩)] noMem [lkA b x] (fun _ : Unit => .int .u64 x.want) (fun _ _ => True) (fun _ => [lkA b x]) := by
  refine Ctr.mk fun w F m C _ => x_link_Link_Want _ w _ ?_
  refine (c_none b x).call C trivial fun _ m1 w2 hk hm _ C => ⟨_, rfl, hk.size, ?_⟩
  rw [if_neg (by simp)]
  obtain ⟨q, c, mb, C⟩ := lkO C
  exact ⟨x.want, by rw [Addr.add_mid]; exact C.blkCell (j := 6) rfl, Ctr.ret () rfl trivial (lkI C)⟩

/-! ### a new one -/
@[reducible] def lk0 (mn ml pn pl first again : Int) : Lk := ⟨mn, ml, pn, pl, if (1 : Int) > again then 1 else again, first, first, [], [], false⟩
theorem c_New (mn ml pn pl first again : Int) : Ctr Try.prog 9 #[.agg #[.int .u8 mn, .int .u16 ml], .agg #[.int .u8 pn, .int .u16 pl], .int .u64 first, .int .i64 again] noMem [] (fun b : Nat => .pointer (some ⟨b, 0, none⟩)) (fun _ _ => True) (fun b => [lkA b (lk0 mn ml pn pl first again)]) := by
  refine Ctr.mk fun w F m C _ => x_link_New _ _ _ _ _ _ w _ fun w1 L h1 g1 => ?_
  have C1 := ((C.hidL h1 g1).mapNew kU Br.V).slNil (q := none) (ty := 86) (sz := 4)
  have C2 := C1.alloc ((lk0 mn ml pn pl first again).row (.slice none 0 0) (.map (some w1.heap.size))) 82
  exact Ctr.ret _ rfl trivial (lkI (q := none) (c := 0) (mb := w1.heap.size) C2)
theorem c_ends (first again : Int) : Ctr Try.prog 25 #[.int .u64 first, .int .i64 again] noMem [] (fun b : Nat × Nat => .tuple #[.pointer (some ⟨b.1, 0, none⟩), .pointer (some ⟨b.2, 0, none⟩)]) (fun _ _ => True)
    (fun b => [lkA b.1 (lk0 1 1 2 3 first again), lkA b.2 (lk0 2 3 1 1 first again)]) := by
  refine Ctr.mk fun w F m C _ => x_gemotlaw10_ends first again w _ ⟨[], facts_nil _ _, fun w1 L h1 g1 => ?_⟩
  refine (c_New 1 1 2 3 first again).call (C.hidL h1 g1) trivial fun b1 m1 w2 hk hm _ C => ⟨_, rfl, hk, facts_nil _ _, ?_⟩
  refine (c_New 2 3 1 1 first again).call (As := [lkA b1 (lk0 1 1 2 3 first again)]) C trivial fun b2 m2 w3 hk hm _ C => ⟨_, rfl, hk, facts_nil _ _, ?_⟩
  exact Ctr.ret (b1, b2) rfl trivial C.swap

/-! ### sending -/
def sendE (x : Lk) : Int := if x.next = 18446744073709551615 then 11 else if 32 ≤ x.W.length then 10 else 0
def Lk.sent (x : Lk) (nb : Br) : Lk := if sendE x = 0 then { x with W := x.W ++ [⟨x.next, nb, false, 0⟩], next := IntKind.wrap .u64 (x.next + 1) } else x
theorem kept_add {L : List Nat} {w w' : World} (h : Kept L w w') : w.heap.size ≤ w'.heap.size := h.size
theorem c_Send (b : Nat) (x : Lk) (d : Br) :
    Ctr Try.prog 13 #[.pointer (some ⟨b, 0, none⟩), d.V] (fun m => BrM m d ∧ LkM m x) [lkA b x] (fun _ : Br => .int .i64 (sendE x)) (fun n m => n.bs = d.bs ∧ BrM m n ∧ LkM m (x.sent n)) (fun n => [lkA b (x.sent n)]) := by
  refine Ctr.mk fun w F m C hp => x_link_Link_Send _ d.q d.bs.length d.c w _ ?_
  obtain ⟨hd, hx⟩ := hp
  refine (c_none b x).call C trivial fun _ m1 w2 hk hm _ C => ⟨_, rfl, hk.size, ?_⟩
  rw [if_neg (by simp)]
  obtain ⟨q, c, mb, C⟩ := lkO C
  refine ⟨x.next, by rw [Addr.add_mid]; exact C.blkCell (j := 5) rfl, ?_⟩
  by_cases h1 : x.next = 18446744073709551615
  · rw [if_pos (by simp [h1])]
    have e1 : sendE x = 11 := by rw [sendE, if_pos h1]
    have e2 : x.sent d = x := by rw [Lk.sent, e1, if_neg (by decide)]
    exact Ctr.ret (m' := m1) d (by rw [e1]) ⟨rfl, hd.mono hm, by rw [e2]; exact hx.mono hm⟩ (by rw [e2]; exact lkI C)
  rw [if_neg (by simpa using h1)]
  refine ⟨q, x.W.length, c, by rw [Addr.add_mid]; exact C.blkCell (j := 7) rfl, ?_⟩
  by_cases h2 : 32 ≤ x.W.length
  · rw [if_pos (by simp; omega)]
    have e1 : sendE x = 10 := by rw [sendE, if_neg h1, if_pos h2]
    have e2 : x.sent d = x := by rw [Lk.sent, e1, if_neg (by decide)]
    exact Ctr.ret (m' := m1) d (by rw [e1]) ⟨rfl, hd.mono hm, by rw [e2]; exact hx.mono hm⟩ (by rw [e2]; exact lkI C)
  rw [if_neg (by simp; omega)]
  have e1 : sendE x = 0 := by rw [sendE, if_neg h1, if_neg h2]
  have hf : ∀ {w' L'} {As : List Asn} {m' : Mem}, Ctx F m w w' L' m' (lkB b x (.slice q x.W.length c) (.map (some mb)) :: As) → FactsW [(⟨b, 7, none⟩, [.slice q x.W.length c]), (⟨b, 5, none⟩, [.int .u64 x.next])] w' L' := fun C => C.blkFact1 7 _ rfl (C.blkFact1 5 _ rfl (facts_nil _ _))
  refine ⟨_, hf C, q, x.W.length, c, by simp [Addr.add_mid], x.next, by simp [Addr.add_mid], fun w13 h13 => ?_⟩
  replace C := C.hid0 h13
  refine (c_Clone d).call C (hd.mono hm) fun nb m2 w15 hk hm2 hnb C => ⟨nb.q, nb.bs.length, nb.c, rfl, hk.size, hf C, ?_⟩
  obtain ⟨hnb1, hnb2⟩ := hnb
  have C2 := C.alloc (Sr.row ⟨x.next, nb, false, 0⟩) 86
  refine ⟨hf C2.swap, ?_⟩
  have hcell : Cells (w15.alloc (.cells (Sr.row ⟨x.next, nb, false, 0⟩).toArray 86)) ⟨w15.heap.size, 0, none⟩ (Sr.row ⟨x.next, nb, false, 0⟩) := C2.blkCells fun j v e => by rw [Nat.zero_add]; exact e
  have C3 := C2.third
  obtain ⟨q2, c2, w22, hr, hkk, C4⟩ := C3.app (P := Try.prog) (bytes := 64) (t := 79) (t2 := 79) 79 (by kernel_rfl) (.some ⟨w15.heap.size, 0, none⟩ 1 1 (Sr.row ⟨x.next, nb, false, 0⟩) rfl hcell) (by omega) (row_one _)
  refine ⟨q2, x.W.length + 1, c2, w22, hr, hkk.size, ?_⟩
  have C5 := (C4.swap.drop).swap
  refine ⟨hf C5, rfl, C5.there 7 1 (by simp), ?_⟩
  have C6 := C5.store 7 [.slice q2 (x.W.length + 1) c2] (by simp)
  refine ⟨x.next, by rw [Addr.add_mid]; exact C6.blkCell (j := 5) rfl, rfl, C6.there 5 1 (by simp [splice]), ?_⟩
  have C7 := C6.store 5 [.int .u64 (IntKind.wrap .u64 (x.next + 1))] (by simp [splice])
  have e2 : x.sent nb = { x with W := x.W ++ [⟨x.next, nb, false, 0⟩], next := IntKind.wrap .u64 (x.next + 1) } := by rw [Lk.sent, if_pos e1]
  have hx' := (hx.mono hm).mono hm2
  refine Ctr.ret (m' := m2) (L := []) nb (by rw [e1]) ⟨hnb1, hnb2, by rw [e2]; exact ⟨fun s hs => by
    rcases List.mem_append.1 hs with hs | hs
    · exact hx'.1 s hs
    · simp only [List.mem_singleton] at hs; subst hs; exact hnb2, hx'.2⟩⟩ ?_
  rw [e2]
  refine lkI (q := q2) (c := c2) (mb := mb) ?_
  show Ctx _ _ _ _ _ _ (blk b (Lk.row _ (.slice q2 (x.W ++ [(⟨x.next, nb, false, 0⟩ : Sr)]).length c2) _) 82 :: slA (.slice q2 (x.W ++ [(⟨x.next, nb, false, 0⟩ : Sr)]).length c2) (x.W ++ [(⟨x.next, nb, false, 0⟩ : Sr)]).length (rows (x.W ++ [(⟨x.next, nb, false, 0⟩ : Sr)])) 86 4 :: _)
  rw [rows_append, List.length_append]
  simpa [rows, splice] using C7
end Go.Proofs
