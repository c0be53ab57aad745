import Derived.Test.YtamnhlkaknjcaaaU09l
import Derived.Test.YtamnhlkaknjcaaaV09c
set_option linter.unusedVariables false
set_option linter.unusedSimpArgs false
set_option maxRecDepth 10000
namespace Go.Proofs
open Go X RowKit Go.Sort
/-! ### knows -/
def kA : J := ⟨⟨1, 0, 0, I.zero⟩, by refine ⟨by decide, by decide, by decide, ?_⟩; constructor <;> decide⟩
def kB : J := ⟨⟨2, 0, 0, I.zero⟩, by refine ⟨by decide, by decide, by decide, ?_⟩; constructor <;> decide⟩
theorem kBA : kB ≠ kA := fun h => by have := congrArg (fun j : J => j.1.kd) h; exact absurd this (by decide)
theorem kn1 : setF ⟨mostF 2, []⟩ kA 5 = (0, ⟨2, [(kA, 5)]⟩) := by simp [setF, fnd, mostF, X.mput]
theorem kn2 : setF ⟨2, [(kA, 5)]⟩ kB 3 = (0, ⟨2, [(kA, 5), (kB, 3)]⟩) := by
  have h := kBA
  simp [setF, fnd, X.mput, h, h.symm]
theorem kn3 : dueF ⟨2, [(kA, 5), (kB, 3)]⟩ 4 = [kB] := by simp [dueF, sortBy]
theorem kn4 : delL [kB] [(kA, 5), (kB, 3)] = [(kA, 5)] := by
  have h := kBA
  simp [delL, X.mdel, h, h.symm]
theorem c_knows : Ctr Try.prog 10 #[] noMem [] (fun _ : Unit => .bool true) (fun _ _ => True) (fun _ => []) := by
  refine Ctr.mk fun w F m C _ => x_gemotlaw09_knows w _ ?_
  refine (c_New 2).call (As := []) C trivial fun b m1 w2 hk _ _ C => ⟨_, rfl, hk.size, ?_⟩
  refine (c_Set b ⟨mostF 2, []⟩ kA 5).call (As := []) C trivial fun _ m2 w5 hk _ _ C => ⟨_, rfl, hk.size, ?_⟩
  rw [kn1] at C ⊢
  refine (c_Set b ⟨2, [(kA, 5)]⟩ kB 3).call (As := []) C trivial fun _ m3 w8 hk _ _ C => ⟨_, rfl, hk.size, ?_⟩
  rw [kn2] at C ⊢
  refine (c_Due b ⟨2, [(kA, 5), (kB, 3)]⟩ (by simp) 4).call (As := []) C trivial fun v m4 w11 hk _ _ C => ⟨_, _, _, rfl, hk.size, ?_⟩
  rw [kn3, kn4] at C
  rw [kn3]
  refine C.gives (c_num 0) fun w16 k16 C => ⟨_, rfl, k16.size, ?_⟩
  refine C.gives (c_num 0) fun w19 k19 C => ⟨_, rfl, k19.size, ?_⟩
  rw [if_pos (by decide)]
  refine ⟨by decide, by decide, ?_⟩
  have C1 : Ctx F m w w19 [] m4 (jsA 40 v [kB] :: [whA b ⟨2, [(kA, 5)]⟩]) := C
  obtain ⟨a, ha, hc, _⟩ := js_elem C1 (j := 0) (by simp)
  rw [ha]
  refine ⟨2, hc 0 _ rfl, ?_⟩
  rw [if_pos (by decide)]
  refine (c_Len b ⟨2, [(kA, 5)]⟩).call (As := [jsA 40 v [kB]]) C1.swap trivial fun _ m5 w24 hk _ _ C => ⟨_, rfl, hk.size, ?_⟩
  exact Ctr.ret (m' := m5) (L := []) () rfl trivial (Ctx.drop (Ctx.drop C))
/-! ### WheelOrders -/
theorem cmp2_neg (a b : Int) : cmp2 b a = 0 - cmp2 a b := by
  rcases Int.lt_trichotomy a b with h | h | h
  · rw [cmp2_lt h, cmp2_gt h]; rfl
  · rw [h, cmp2_self]; rfl
  · rw [cmp2_gt h, cmp2_lt h]; rfl
theorem cmp2_rng (a b : Int) : -1 ≤ cmp2 a b ∧ cmp2 a b ≤ 1 := by unfold cmp2; split <;> (try split) <;> omega
theorem l_WheelOrders (w : World) (x y : J) : Calls Try.prog 3 #[jV x, jV y] w (LawR w) := by
  refine x_gemotlaw09_WheelOrders _ _ _ _ _ _ _ _ _ _ _ _ _ _ _ _ _ _ _ _ _ _ _ _ _ _ w _ ⟨[], facts_nil _ _, fun w2 L3 h1 g1 => ?_⟩
  have C := (lawStart w).hidL h1 g1
  refine C.gives (c_Key x.1) fun w5 k5 C => ⟨_, _, _, _, _, _, _, _, _, _, _, _, _, rfl, k5, facts_nil _ _, [], facts_nil _ _, fun _ h => h, ?_⟩
  refine C.gives (c_Key y.1) fun w22 k22 C => ⟨_, _, _, _, _, _, _, _, _, _, _, _, _, rfl, k22, facts_nil _ _, [], facts_nil _ _, fun _ h => h, ?_⟩
  refine C.gives (c_wCompare x.1 y.1 x.2 y.2) fun w39 k39 C => ⟨_, rfl, k39, facts_nil _ _, [], facts_nil _ _, fun _ h => h, ?_⟩
  refine C.gives (c_rCompare x.1 y.1 x.2 y.2) fun w44 k44 C => ⟨_, rfl, k44, facts_nil _ _, [], facts_nil _ _, fun _ h => h, ?_⟩
  rw [if_pos (by simp)]
  refine C.gives (c_Key y.1) fun w49 k49 C => ⟨_, _, _, _, _, _, _, _, _, _, _, _, _, rfl, k49, facts_nil _ _, ?_⟩
  refine C.gives (c_Key x.1) fun w64 k64 C => ⟨_, _, _, _, _, _, _, _, _, _, _, _, _, rfl, k64, facts_nil _ _, ?_⟩
  refine C.gives (c_wCompare y.1 x.1 y.2 x.2) fun w79 k79 C => ⟨_, rfl, k79, facts_nil _ _, ?_⟩
  refine C.gives (c_rCompare x.1 y.1 x.2 y.2) fun w82 k82 C => ⟨_, rfl, k82, facts_nil _ _, ?_⟩
  have hr := cmp2_rng x.1.num y.1.num
  rw [k_cmp_num x.2 y.2, k_cmp_num y.2 x.2, cmp2_neg x.1.num y.1.num, w_i64 (by omega) (by omega), if_pos (by simp)]
  refine c_knows.call (As := []) C trivial fun _ m2 w85 hk _ _ C => ⟨_, rfl, hk, facts_nil _ _, rfl, Ctx.at_ C⟩
/-! ### nobody, and one that nobody made -/
abbrev Fls (f : FuncId) (args : Array Value) (r : Value) (As : List Asn) : Prop := Ctr Try.prog f args noMem As (fun _ : Unit => r) (fun _ _ => True) (fun _ => As)
structure DW (v : Value) (As : List Asn) : Prop where
  at_ : ∀ d : J, Fls 19 #[v, jV d] (.tuple #[.int .i64 0, .bool false]) As
  next : Fls 23 #[v] (.tuple #[.int .i64 0, .bool false]) As
  set : ∀ (d : J) (t : Int), Fls 13 #[v, jV d, .int .i64 t] (.int .i64 1) As
  cancel : ∀ d : J, Fls 17 #[v, jV d] (.bool false) As
  due : ∀ t : Int, Fls 14 #[v, .int .i64 t] (.slice none 0 0) As
  len : Fls 25 #[v] (.int .i64 0) As
abbrev unB (b : Nat) : Asn := blk b [.map none, .int .i64 0] 74
theorem c_nil_none : Fls 35 #[.pointer none] (.bool true) [] := Ctr.mk fun w F m C _ => x_nil_none w _ (Ctr.ret () rfl trivial C)
theorem c_un_none (b : Nat) : Fls 35 #[.pointer (some ⟨b, 0, none⟩)] (.bool true) [unB b] := Ctr.mk fun w F m C _ => x_wheel_Wheel_none _ w _ ⟨none, by rw [Addr.add_mid]; exact C.blkCell (j := 0) rfl, Ctr.ret () rfl trivial C⟩
theorem nil_at (d : J) : Fls 19 #[.pointer none, jV d] (.tuple #[.int .i64 0, .bool false]) [] := Ctr.mk fun w F m C _ => x_nil_At _ _ _ _ _ _ _ _ _ _ _ _ _ w _ fun w1 L2 h1 g1 => by
  refine c_nil_none.call (As := []) (C.hidL h1 g1) trivial fun _ m2 w4 hk hm _ C => ⟨_, rfl, hk, ?_⟩
  rw [if_pos rfl]; exact Ctr.ret (m' := m2) () rfl trivial C
theorem un_at (b : Nat) (d : J) : Fls 19 #[.pointer (some ⟨b, 0, none⟩), jV d] (.tuple #[.int .i64 0, .bool false]) [unB b] := Ctr.mk fun w F m C _ => x_wheel_Wheel_At _ _ _ _ _ _ _ _ _ _ _ _ _ _ w _ fun w1 L2 h1 g1 => by
  refine (c_un_none b).call (As := []) (C.hidL h1 g1) trivial fun _ m2 w4 hk hm _ C => ⟨_, rfl, hk, ?_⟩
  rw [if_pos rfl]; exact Ctr.ret (m' := m2) () rfl trivial C
theorem dw_nil : DW (.pointer none) [] where
  at_ := nil_at
  next := Ctr.mk fun w F m C _ => x_nil_Next w _ <| by
    refine c_nil_none.call (As := []) C trivial fun _ m2 w4 hk hm _ C => ⟨_, rfl, hk.size, ?_⟩
    rw [if_pos rfl]; exact Ctr.ret (m' := m2) () rfl trivial C
  set d t := Ctr.mk fun w F m C _ => x_nil_Set _ _ _ _ _ _ _ _ _ _ _ _ _ _ w _ fun w1 L2 h1 g1 => by
    refine c_nil_none.call (As := []) (C.hidL h1 g1) trivial fun _ m2 w4 hk hm _ C => ⟨_, rfl, hk, ?_⟩
    rw [if_pos rfl]; exact Ctr.ret (m' := m2) () rfl trivial C
  cancel d := Ctr.mk fun w F m C _ => x_nil_Cancel _ _ _ _ _ _ _ _ _ _ _ _ _ w _ fun w1 L2 h1 g1 => by
    refine (nil_at d).call (As := []) (C.hidL h1 g1) trivial fun _ m2 w4 hk hm _ C => ⟨_, _, rfl, hk, ?_⟩
    rw [if_neg (by decide)]; exact Ctr.ret (m' := m2) () rfl trivial C
  due t := Ctr.mk fun w F m C _ => x_nil_Due _ w _ <| by
    refine c_nil_none.call (As := []) C trivial fun _ m2 w4 hk hm _ C => ⟨_, rfl, hk.size, ?_⟩
    rw [if_pos rfl]; exact Ctr.ret (m' := m2) () rfl trivial C
  len := Ctr.mk fun w F m C _ => x_nil_Len w _ <| by
    refine c_nil_none.call (As := []) C trivial fun _ m2 w4 hk hm _ C => ⟨_, rfl, hk.size, ?_⟩
    rw [if_pos rfl]; exact Ctr.ret (m' := m2) () rfl trivial C
theorem dw_un (b : Nat) : DW (.pointer (some ⟨b, 0, none⟩)) [unB b] where
  at_ := un_at b
  next := Ctr.mk fun w F m C _ => x_wheel_Wheel_Next _ w _ <| by
    refine (c_un_none b).call (As := []) C trivial fun _ m2 w4 hk hm _ C => ⟨_, rfl, hk.size, ?_⟩
    rw [if_pos rfl]; exact Ctr.ret (m' := m2) () rfl trivial C
  set d t := Ctr.mk fun w F m C _ => x_wheel_Wheel_Set _ _ _ _ _ _ _ _ _ _ _ _ _ _ _ w _ fun w1 L2 h1 g1 => by
    refine (c_un_none b).call (As := []) (C.hidL h1 g1) trivial fun _ m2 w4 hk hm _ C => ⟨_, rfl, hk, ?_⟩
    rw [if_pos rfl]; exact Ctr.ret (m' := m2) () rfl trivial C
  cancel d := Ctr.mk fun w F m C _ => x_wheel_Wheel_Cancel _ _ _ _ _ _ _ _ _ _ _ _ _ _ w _ fun w1 L2 h1 g1 => by
    refine (un_at b d).call (As := []) (C.hidL h1 g1) trivial fun _ m2 w4 hk hm _ C => ⟨_, _, rfl, hk, ?_⟩
    rw [if_neg (by decide)]; exact Ctr.ret (m' := m2) () rfl trivial C
  due t := Ctr.mk fun w F m C _ => x_wheel_Wheel_Due _ _ w _ <| by
    refine (c_un_none b).call (As := []) C trivial fun _ m2 w4 hk hm _ C => ⟨_, rfl, hk.size, ?_⟩
    rw [if_pos rfl]; exact Ctr.ret (m' := m2) () rfl trivial C
  len := Ctr.mk fun w F m C _ => x_wheel_Wheel_Len _ w _ <| by
    refine (c_un_none b).call (As := []) C trivial fun _ m2 w4 hk hm _ C => ⟨_, rfl, hk.size, ?_⟩
    rw [if_pos rfl]; exact Ctr.ret (m' := m2) () rfl trivial C
structure Ac where (kd at_ : Int) (k : J)
@[reducible] def Ac.row (a : Ac) : List Value := .int .i64 a.kd :: .int .i64 a.at_ :: jR a.k
theorem ac_len (a : Ac) : a.row.length = 15 := rfl
theorem l_WheelNil (w : World) (a : Ac) : Calls Try.prog 6 #[.agg a.row.toArray] w (LawR w) := by
  refine x_gemotlaw09_WheelNil _ _ _ _ _ _ _ _ _ _ _ _ _ _ _ w _ fun w1 L2 h1 g1 => ?_
  have C := (lawStart w).hidL h1 g1
  refine ⟨fun q i w' L' => ∃ (k : Nat) (m' : Mem) (As : List Asn), i = k ∧ k ≤ 2 ∧ DW (.pointer q) As ∧ Ctx [] (memOf w) w w' L' m' As, fun _ i _ => (2 - i).toNat, ⟨0, _, [], rfl, by omega, dw_nil, C⟩, ?_⟩
  clear C
  rintro q i w7 L8 _ ⟨k, m3, As, rfl, hk2, hd, C⟩
  by_cases hkk : k < 2
  rotate_left
  · rw [if_neg (by simp; omega)]
    exact c_knows.call (As := As) C trivial fun _ m3 w5 hk hm3 _ C => ⟨_, rfl, hk, rfl, C.at_⟩
  rw [if_pos (by simp; omega)]
  have call0 : ∀ {f : FuncId} {args : Array Value} {r : Value} {Cs : List Asn} {w' L' m'} {R : Ending → World → Prop}, Fls f args r Cs → Ctx [] (memOf w) w w' L' m' Cs → (∀ m2 w2, Kept L' w' w2 → Ctx [] (memOf w) w w2 L' m2 Cs → R (.returned r) w2) → CallX Try.prog f args w' R := fun s C k =>
    s.call (As := []) (C.perm (by rw [List.append_nil])) trivial fun _ m2 w2 hk _ _ D => k m2 w2 hk (D.perm (by rw [List.append_nil]))
  refine C.gives (c_Key a.k.1) fun w13 k13 C => ⟨_, _, _, _, _, _, _, _, _, _, _, _, _, rfl, k13, ?_⟩
  refine call0 (hd.at_ a.k) C fun m4 w28 hk C => ⟨_, _, rfl, hk, ?_⟩
  refine call0 hd.next C fun m5 w32 hk C => ⟨_, _, rfl, hk, [], facts_nil _ _, fun w36 L37 h36 g36 => ?_⟩
  refine (C.hidL h36 g36).gives (c_Key a.k.1) fun w39 k39 C => ⟨_, _, _, _, _, _, _, _, _, _, _, _, _, rfl, k39, facts_nil _ _, [], facts_nil _ _, fun _ h => h, ?_⟩
  refine call0 (hd.set a.k a.at_) C fun m6 w56 hk C => ⟨_, rfl, hk, facts_nil _ _, [], facts_nil _ _, fun _ h => h, ?_⟩
  refine C.gives (c_num 1) fun w61 k61 C => ⟨_, rfl, k61, facts_nil _ _, [], facts_nil _ _, fun _ h => h, ?_⟩
  rw [if_pos (by decide)]
  refine C.gives (c_Key a.k.1) fun w70 k70 C => ⟨_, _, _, _, _, _, _, _, _, _, _, _, _, rfl, k70, facts_nil _ _, [], facts_nil _ _, fun _ h => h, ?_⟩
  refine call0 (hd.cancel a.k) C fun m7 w87 hk C => ⟨_, rfl, hk, facts_nil _ _, [], facts_nil _ _, fun _ h => h, ?_⟩
  rw [if_pos (by decide)]
  refine call0 (hd.due a.at_) C fun m8 w92 hk C => ⟨_, _, _, rfl, hk, facts_nil _ _, ?_⟩
  refine call0 hd.len C fun m9 w97 hk C => ⟨_, rfl, hk, facts_nil _ _, ?_⟩
  rw [if_neg (by decide), Go.Proofs.w1 k (by omega)]
  exact ⟨rfl, ⟨k + 1, m9, _, rfl, by omega, dw_un _, (C.alloc [.map none, .int .i64 0] 74).left (As := [_])⟩, Nat.le_of_eq (by show ((2 : Int) - ((k + 1 : Nat) : Int)).toNat + 1 = ((2 : Int) - (k : Int)).toNat; omega)⟩
end Go.Proofs
