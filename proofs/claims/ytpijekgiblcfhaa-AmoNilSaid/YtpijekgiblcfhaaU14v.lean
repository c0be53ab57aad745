import Derived.Test.YtpijekgiblcfhaaU14d
import Derived.Test.YtpijekgiblcfhaaV14e
import Derived.Test.YtpijekgiblcfhaaV14f
set_option linter.unusedVariables false
set_option linter.unusedSimpArgs false
set_option maxRecDepth 10000
namespace Go.Proofs
open Go X RowKit
/-! ### nobody, and one that nobody made -/
abbrev Fls (f : FuncId) (args : Array Value) (pre : Mem → Prop) (r : Value) (As : List Asn) : Prop := Ctr Try.prog f args pre As (fun _ : Unit => r) (fun _ _ => True) (fun _ => As)
structure DT (v : Value) (As : List Asn) : Prop where
  raise : ∀ (p : Int × Int) (n : Int), Fls 26 #[v, pkV p, .int .u32 n] noMem (.tuple #[]) As
  res : ∀ d : I, Fls 28 #[v, d.V] noMem (.tuple #[.agg #[.int .u8 0, .string ⟨#[]⟩], .bool false]) As
  state : ∀ d : I, Fls 31 #[v, d.V] noMem (.int .i64 3) As
  begin_ : ∀ d : I, Fls 21 #[v, d.V] noMem (.int .i64 1) As
  end_ : ∀ (d : I) (c : Int) (s : ByteArray), Fls 23 #[v, d.V, .agg #[.int .u8 c, .string s]] noMem (.bool false) As
  floor : ∀ p : Int × Int, Fls 19 #[v, pkV p] noMem (.int .u32 0) As
  len : Fls 34 #[v] noMem (.int .i64 0) As
  all : Fls 18 #[v] noMem (.slice none 0 0) As
  clone : Fls 12 #[v] noMem (.pointer none) As
  sameN : Fls 13 #[v, .pointer none] noMem (.bool true) As
  sameT : ∀ (b : Nat) (t : Tb), Fls 13 #[v, .pointer (some ⟨b, 0, none⟩)] noMem (.bool false) (tbA b t :: As)
  Tsame : ∀ (b : Nat) (t : Tb), Fls 13 #[.pointer (some ⟨b, 0, none⟩), v] noMem (.bool false) (tbA b t :: As)
abbrev unB (b : Nat) : Asn := blk b [.int .u32 0, .map none, .map none] 87
theorem c_nil_none : Fls 36 #[.pointer none] noMem (.bool true) [] := Ctr.mk fun w F m C _ => x_nil_none w _ (Ctr.ret () rfl trivial C)
theorem c_un_none (b : Nat) : Fls 36 #[.pointer (some ⟨b, 0, none⟩)] noMem (.bool true) [unB b] := Ctr.mk fun w F m C _ => x_amo_Table_none _ w _ ⟨none, by rw [Addr.add_mid]; exact C.blkCell (j := 1) rfl, Ctr.ret () rfl trivial C⟩
theorem dt_nil_state (d : I) : Fls 31 #[(.pointer none), d.V] noMem (.int .i64 3) [] := Ctr.mk fun w F m C _ => x_nil_State _ _ _ _ _ _ _ _ _ _ w _ fun w1 L2 h1 g1 => by
  refine (c_nil_none).call (As := []) (C.hidL h1 g1) trivial fun _ m2 w4 hk hm _ C => ⟨_, rfl, hk, ?_⟩
  rw [if_pos rfl]
  exact Ctr.ret (m' := m2) () rfl trivial C
theorem dt_nil : DT (.pointer none) [] where
  raise p n := Ctr.mk fun w F m C _ => x_nil_Raise _ _ _ w _ ⟨[], facts_nil _ _, fun w2 L3 h2 g2 => by
    refine (c_nil_none).call (As := []) (C.hidL h2 g2) trivial fun _ m2 w4 hk hm _ C => ⟨_, rfl, hk, facts_nil _ _, [], facts_nil _ _, fun _ h => h, ?_⟩
    rw [if_neg (by decide)]
    exact ⟨[], facts_nil _ _, fun _ h => h, Ctr.ret (m' := m2) () rfl trivial C⟩⟩
  res d := Ctr.mk fun w F m C _ => x_nil_Res _ _ _ _ _ _ _ _ _ _ w _ fun w1 L2 h1 g1 => by
    refine (dt_nil_state d).call (As := []) (C.hidL h1 g1) trivial fun _ m2 w4 hk hm _ C => ⟨_, rfl, hk, ?_⟩
    rw [if_pos (by decide)]
    exact fun w7 h7 => Ctr.ret (m' := m2) (L := []) () rfl trivial (C.hid0 h7)
  state d := dt_nil_state d
  begin_ d := Ctr.mk fun w F m C _ => x_nil_Begin _ _ _ _ _ _ _ _ _ _ w _ fun w1 L2 h1 g1 => by
    refine (c_nil_none).call (As := []) (C.hidL h1 g1) trivial fun _ m2 w4 hk hm _ C => ⟨_, rfl, hk, ?_⟩
    rw [if_neg (by decide)]
    exact Ctr.ret (m' := m2) () rfl trivial C
  end_ d c s := Ctr.mk fun w F m C _ => x_nil_End _ _ _ _ _ _ _ _ _ _ _ _ w _ fun w1 L2 h1 g1 => by
    refine (dt_nil_state d).call (As := []) (C.hidL h1 g1) trivial fun _ m2 w4 hk hm _ C => ⟨_, rfl, hk, ?_⟩
    rw [if_pos (by decide)]
    exact Ctr.ret (m' := m2) () rfl trivial C
  floor p := Ctr.mk fun w F m C _ => x_nil_Floor _ _ w _ fun w1 L2 h1 g1 => by
    refine (c_nil_none).call (As := []) (C.hidL h1 g1) trivial fun _ m2 w4 hk hm _ C => ⟨_, rfl, hk, ?_⟩
    rw [if_pos rfl]
    exact Ctr.ret (m' := m2) () rfl trivial C
  len := Ctr.mk fun w F m C _ => x_nil_Len w _ <| by
    refine (c_nil_none).call (As := []) C trivial fun _ m2 w4 hk hm _ C => ⟨_, rfl, hk.size, ?_⟩
    rw [if_pos rfl]
    exact Ctr.ret (m' := m2) () rfl trivial C
  all := Ctr.mk fun w F m C _ => x_nil_All w _ <| by
    refine (c_nil_none).call (As := []) C trivial fun _ m2 w4 hk hm _ C => ⟨_, rfl, hk.size, ?_⟩
    rw [if_pos rfl]
    exact Ctr.ret (m' := m2) () rfl trivial C
  clone := Ctr.mk fun w F m C _ => x_nil_Clone w _ <| by
    refine (c_nil_none).call (As := []) C trivial fun _ m2 w4 hk hm _ C => ⟨_, rfl, hk.size, ?_⟩
    rw [if_pos rfl]
    exact Ctr.ret (m' := m2) () rfl trivial C
  sameN := Ctr.mk fun w F m C _ => x_nil_nil_Same w _ <| by
    refine (c_nil_none).call (As := []) C trivial fun _ m2 w4 hk hm _ C => ⟨_, rfl, hk.size, ?_⟩
    rw [if_neg (by decide)]
    refine (c_nil_none).call (As := []) C trivial fun _ m3 w5 hk hm _ C => ⟨_, rfl, hk.size, ?_⟩
    rw [if_pos (by decide)]
    refine c_nil_none.call (As := []) C trivial fun _ m4 w6 hk hm _ C => ⟨_, rfl, hk.size, ?_⟩
    exact Ctr.ret (m' := m4) () rfl trivial C
  sameT b t := Ctr.mk fun w F m C _ => x_nil_Same _ w _ <| by
    replace C := C
    refine (c_nil_none).call (As := [tbA b t]) C trivial fun _ m2 w4 hk hm _ C => ⟨_, rfl, hk.size, ?_⟩
    rw [if_neg (by decide)]
    refine (c_nil_none).call (As := [tbA b t]) C trivial fun _ m3 w5 hk hm _ C => ⟨_, rfl, hk.size, ?_⟩
    rw [if_pos (by decide)]
    refine (c_none b t).call (As := []) (C) trivial fun _ m4 w6 hk hm _ C => ⟨_, rfl, hk.size, ?_⟩
    exact Ctr.ret (m' := m4) () rfl trivial C
  Tsame b t := Ctr.mk fun w F m C _ => x_Same_nil _ w _ <| by
    refine (c_none b t).call (As := []) C trivial fun _ m2 w4 hk hm _ C => ⟨_, rfl, hk.size, ?_⟩
    rw [if_pos (by decide)]
    refine (c_nil_none).call (As := [tbA b t]) (C) trivial fun _ m3 w5 hk hm _ C => ⟨_, rfl, hk.size, ?_⟩
    rw [if_pos (by decide)]
    refine (c_none b t).call (As := []) (C) trivial fun _ m4 w6 hk hm _ C => ⟨_, rfl, hk.size, ?_⟩
    rw [if_neg (by decide)]
    exact Ctr.ret (m' := m4) () rfl trivial C
theorem dt_un_state (bk : Nat) (d : I) : Fls 31 #[(.pointer (some ⟨bk, 0, none⟩)), d.V] noMem (.int .i64 3) [unB bk] := Ctr.mk fun w F m C _ => x_amo_Table_State _ _ _ _ _ _ _ _ _ _ _ w _ fun w1 L2 h1 g1 => by
  refine (c_un_none bk).call (As := []) (C.hidL h1 g1) trivial fun _ m2 w4 hk hm _ C => ⟨_, rfl, hk, ?_⟩
  rw [if_pos rfl]
  exact Ctr.ret (m' := m2) () rfl trivial C
theorem dt_un (bk : Nat) : DT (.pointer (some ⟨bk, 0, none⟩)) [unB bk] where
  raise p n := Ctr.mk fun w F m C _ => x_amo_Table_Raise _ _ _ _ w _ ⟨[], facts_nil _ _, fun w2 L3 h2 g2 => by
    refine (c_un_none bk).call (As := []) (C.hidL h2 g2) trivial fun _ m2 w4 hk hm _ C => ⟨_, rfl, hk, facts_nil _ _, [], facts_nil _ _, fun _ h => h, ?_⟩
    rw [if_neg (by decide)]
    exact ⟨[], facts_nil _ _, fun _ h => h, Ctr.ret (m' := m2) () rfl trivial C⟩⟩
  res d := Ctr.mk fun w F m C _ => x_amo_Table_Res _ _ _ _ _ _ _ _ _ _ _ w _ fun w1 L2 h1 g1 => by
    refine (dt_un_state bk d).call (As := []) (C.hidL h1 g1) trivial fun _ m2 w4 hk hm _ C => ⟨_, rfl, hk, ?_⟩
    rw [if_pos (by decide)]
    exact fun w7 h7 => Ctr.ret (m' := m2) (L := []) () rfl trivial (C.hid0 h7)
  state d := dt_un_state bk d
  begin_ d := Ctr.mk fun w F m C _ => x_amo_Table_Begin _ _ _ _ _ _ _ _ _ _ _ w _ fun w1 L2 h1 g1 => by
    refine (c_un_none bk).call (As := []) (C.hidL h1 g1) trivial fun _ m2 w4 hk hm _ C => ⟨_, rfl, hk, ?_⟩
    rw [if_neg (by decide)]
    exact Ctr.ret (m' := m2) () rfl trivial C
  end_ d c s := Ctr.mk fun w F m C _ => x_amo_Table_End _ _ _ _ _ _ _ _ _ _ _ _ _ w _ fun w1 L2 h1 g1 => by
    refine (dt_un_state bk d).call (As := []) (C.hidL h1 g1) trivial fun _ m2 w4 hk hm _ C => ⟨_, rfl, hk, ?_⟩
    rw [if_pos (by decide)]
    exact Ctr.ret (m' := m2) () rfl trivial C
  floor p := Ctr.mk fun w F m C _ => x_Floor _ _ _ w _ fun w1 L2 h1 g1 => by
    refine (c_un_none bk).call (As := []) (C.hidL h1 g1) trivial fun _ m2 w4 hk hm _ C => ⟨_, rfl, hk, ?_⟩
    rw [if_pos rfl]
    exact Ctr.ret (m' := m2) () rfl trivial C
  len := Ctr.mk fun w F m C _ => x_amo_Table_Len _ w _ <| by
    refine (c_un_none bk).call (As := []) C trivial fun _ m2 w4 hk hm _ C => ⟨_, rfl, hk.size, ?_⟩
    rw [if_pos rfl]
    exact Ctr.ret (m' := m2) () rfl trivial C
  all := Ctr.mk fun w F m C _ => x_All _ w _ <| by
    refine (c_un_none bk).call (As := []) C trivial fun _ m2 w4 hk hm _ C => ⟨_, rfl, hk.size, ?_⟩
    rw [if_pos rfl]
    exact Ctr.ret (m' := m2) () rfl trivial C
  clone := Ctr.mk fun w F m C _ => x_amo_Table_Clone _ w _ <| by
    refine (c_un_none bk).call (As := []) C trivial fun _ m2 w4 hk hm _ C => ⟨_, rfl, hk.size, ?_⟩
    rw [if_pos rfl]
    exact Ctr.ret (m' := m2) () rfl trivial C
  sameN := Ctr.mk fun w F m C _ => x_Same_nil _ w _ <| by
    refine (c_un_none bk).call (As := []) C trivial fun _ m2 w4 hk hm _ C => ⟨_, rfl, hk.size, ?_⟩
    rw [if_neg (by decide)]
    refine (c_un_none bk).call (As := []) C trivial fun _ m3 w5 hk hm _ C => ⟨_, rfl, hk.size, ?_⟩
    rw [if_pos (by decide)]
    refine c_nil_none.call (As := [unB bk]) C trivial fun _ m4 w6 hk hm _ C => ⟨_, rfl, hk.size, ?_⟩
    exact Ctr.ret (m' := m4) () rfl trivial C
  sameT b t := Ctr.mk fun w F m C _ => x_amo_Table_Same _ _ w _ <| by
    replace C := C.swap
    refine (c_un_none bk).call (As := [tbA b t]) C trivial fun _ m2 w4 hk hm _ C => ⟨_, rfl, hk.size, ?_⟩
    rw [if_neg (by decide)]
    refine (c_un_none bk).call (As := [tbA b t]) C trivial fun _ m3 w5 hk hm _ C => ⟨_, rfl, hk.size, ?_⟩
    rw [if_pos (by decide)]
    refine (c_none b t).call (As := [unB bk]) (C.swap) trivial fun _ m4 w6 hk hm _ C => ⟨_, rfl, hk.size, ?_⟩
    exact Ctr.ret (m' := m4) () rfl trivial C
  Tsame b t := Ctr.mk fun w F m C _ => x_amo_Table_Same _ _ w _ <| by
    refine (c_none b t).call (As := [unB bk]) C trivial fun _ m2 w4 hk hm _ C => ⟨_, rfl, hk.size, ?_⟩
    rw [if_pos (by decide)]
    refine (c_un_none bk).call (As := [tbA b t]) (C.swap) trivial fun _ m3 w5 hk hm _ C => ⟨_, rfl, hk.size, ?_⟩
    rw [if_pos (by decide)]
    refine (c_none b t).call (As := [unB bk]) (C.swap) trivial fun _ m4 w6 hk hm _ C => ⟨_, rfl, hk.size, ?_⟩
    rw [if_neg (by decide)]
    exact Ctr.ret (m' := m4) () rfl trivial C
theorem l_AmoNil (w : World) (a : Ac) : Calls Try.prog 7 #[.agg a.row.toArray] w (LawR w) := by
  refine x_AmoNil _ _ _ _ _ _ _ _ _ _ _ _ _ _ w _ fun w1 L2 h1 g1 => ?_
  have C := (lawStart w).hidL h1 g1
  obtain ⟨C, hm0⟩ := C.newShare a.row 41 (0, 0)
  have hs : MSrc _ 14 (.slice (some ⟨w1.heap.size, 0, none⟩) [a].length 1) [a].length ([a].flatMap Ac.row) := MSrc.mk (m := (memOf w).plus w1.heap.size a.row) (by simp [ac_len]) (fun b hb => by injection hb with hb; subst hb; exact Mem.plus_cells _ _ _ _ _ fun j v h => by rw [Nat.zero_add]; simpa using h) (fun h => by cases h)
  refine (c_light [a] _ 1).call (As := []) C hs fun b m2 w4 hk hm2 _ C => ⟨_, rfl, hk, ?_⟩
  by_cases hb : (!b.1) = true
  · rw [if_pos hb]
    exact c_knows.call (As := []) C trivial fun _ m3 w5 hk hm3 _ C => ⟨_, rfl, hk, rfl, C.at_⟩
  rw [if_neg hb]
  refine C.gives (c_ID a.d) fun w7 k7 C => ⟨_, _, _, _, _, _, _, _, _, _, rfl, k7, fun w18 L19 h18 g18 => ?_⟩
  refine ⟨fun q i w' L' => ∃ (k : Nat) (m' : Mem) (As : List Asn), i = k ∧ k ≤ 2 ∧ DT (.pointer q) As ∧ Ctx [] (memOf w) w w' L' m' As, fun _ i _ => (2 - i).toNat, ⟨0, m2, [], rfl, by omega, dt_nil, C.hidL h18 g18⟩, ?_⟩
  clear C
  rintro q i w24 L25 _ ⟨k, m3, As, rfl, hk2, hd, C⟩
  by_cases hkk : k < 2
  rotate_left
  · rw [if_neg (by simp; omega)]
    exact c_knows.call (As := As) C trivial fun _ m3 w5 hk hm3 _ C => ⟨_, rfl, hk, rfl, C.at_⟩
  rw [if_pos (by simp; omega)]
  have call0 : ∀ {f : FuncId} {args : Array Value} {r : Value} {Cs : List Asn} {w' L' m'} {R : Ending → World → Prop}, Fls f args noMem r Cs → Ctx [] (memOf w) w w' L' m' Cs → (∀ m2 w2, Kept L' w' w2 → Ctx [] (memOf w) w w2 L' m2 Cs → R (.returned r) w2) → CallX Try.prog f args w' R := fun s C k =>
    s.call (As := []) (C.perm (by rw [List.append_nil])) trivial fun _ m2 w2 hk _ _ D => k m2 w2 hk (D.perm (by rw [List.append_nil]))
  refine call0 (hd.raise (a.d.n, a.d.l) _) C fun m4 w30 hk C => ⟨rfl, hk, ?_⟩
  refine call0 (hd.res a.d) C fun m5 w32 hk C => ⟨_, _, _, rfl, hk, fun w36 L37 h36 g36 => ?_⟩
  refine call0 (hd.state a.d) (C.hidL h36 g36) fun m6 w39 hk C => ⟨_, rfl, hk, ?_⟩
  rw [if_pos (by decide)]
  refine call0 (hd.begin_ a.d) C fun m7 w42 hk C => ⟨_, rfl, hk, ?_⟩
  refine C.gives (c_num _) fun w45 k45 C => ⟨_, rfl, k45, ?_⟩
  rw [if_pos (by decide)]
  refine call0 (hd.end_ a.d 0 ⟨#[]⟩) C fun m8 w48 hk C => ⟨_, rfl, hk, ?_⟩
  rw [if_pos (by decide)]
  refine call0 (hd.floor (a.d.n, a.d.l)) C fun m9 w51 hk C => ⟨_, rfl, hk, ?_⟩
  rw [if_pos (by decide)]
  refine call0 hd.len C fun m10 w54 hk C => ⟨_, rfl, hk, ?_⟩
  refine call0 hd.all C fun m11 w57 hk C => ⟨_, _, _, rfl, hk, ?_⟩
  rw [if_pos (by decide)]
  refine call0 hd.clone C fun m12 w62 hk C => ⟨_, rfl, hk, ?_⟩
  rw [if_pos (by decide)]
  refine call0 hd.sameN C fun m13 w65 hk C => ⟨_, rfl, hk, ?_⟩
  rw [if_pos (by decide)]
  refine (c_New 1).call (As := As) C trivial fun b1 m14 w68 hk _ _ C => ⟨_, rfl, hk, ?_⟩
  refine call0 (hd.sameT b1 _) C fun m15 w71 hk C => ⟨_, rfl, hk, ?_⟩
  rw [if_pos (by decide)]
  refine (c_New 1).call (As := As) C.drop trivial fun b2 m16 w74 hk _ _ C => ⟨_, rfl, hk, ?_⟩
  refine call0 (hd.Tsame b2 _) C fun m17 w77 hk C => ⟨_, rfl, hk, ?_⟩
  rw [if_neg (by decide)]
  have e : IntKind.wrap .i64 ((k : Int) + 1) = ((k + 1 : Nat) : Int) := by rw [w_i64 (by omega) (by omega)]; omega
  rw [e]
  have D : Ctx [] (memOf w) w (w77.alloc (.cells #[.int .u32 0, .map none, .map none] 87)) _ m17 ([unB w77.heap.size] ++ (tbA b2 (tb0 1) :: As)) := C.alloc [.int .u32 0, .map none, .map none] 87
  exact ⟨rfl, rfl, ⟨k + 1, m17, _, rfl, by omega, dt_un w77.heap.size, D.left⟩, Nat.le_of_eq (by show ((2 : Int) - ((k + 1 : Nat) : Int)).toNat + 1 = ((2 : Int) - (k : Int)).toNat; omega)⟩
end Go.Proofs
