import Derived.Test.YthlhoikeacgfnaaU02o
set_option linter.unusedVariables false
set_option linter.unusedSimpArgs false
set_option maxRecDepth 10000
namespace Go.Proofs
open Go X RowKit Go.Sort
/-! ### nobody, and one that nobody made -/
abbrev Fls (f : FuncId) (args : Array Value) (r : Value) (As : List Asn) : Prop := Ctr Try.prog f args noMem As (fun _ : Unit => r) (fun _ _ => True) (fun _ => As)
structure DS (v : Value) (As : List Asn) : Prop where
  add : ∀ d : J, Fls 28 #[v, jV d] (.int .i64 1) As
  rem : ∀ d : J, Fls 29 #[v, jV d] (.bool false) As
  has : ∀ d : J, Fls 30 #[v, jV d] (.bool false) As
  len : Fls 31 #[v] (.int .i64 0) As
  all : Fls 32 #[v] (.slice none 0 0) As
  under : ∀ p : Int × Int, Fls 33 #[v, .agg #[.int .u8 p.1, .int .u16 p.2]] (.slice none 0 0) As
abbrev unB (b : Nat) : Asn := blk b [.map none, .int .i64 0] 69
theorem c_nil_none : Fls 50 #[.pointer none] (.bool true) [] := Ctr.mk fun w F m C _ => x_none_nil w _ (Ctr.ret () rfl trivial C)
theorem c_un_none (b : Nat) : Fls 50 #[.pointer (some ⟨b, 0, none⟩)] (.bool true) [unB b] := Ctr.mk fun w F m C _ => x_ident_Set_none _ w _ ⟨none, by rw [Addr.add_mid]; exact C.blkCell (j := 0) rfl, Ctr.ret () rfl trivial C⟩
theorem nil_has (d : J) : Fls 30 #[.pointer none, jV d] (.bool false) [] := Ctr.mk fun w F m C _ => x_Has_nil _ _ _ _ _ _ _ _ _ _ w _ fun w1 L2 h1 g1 => by
  refine c_nil_none.call (As := []) (C.hidL h1 g1) trivial fun _ m2 w4 hk hm _ C => ⟨_, rfl, hk, ?_⟩
  rw [if_pos rfl]; exact Ctr.ret (m' := m2) () rfl trivial C
theorem un_has (b : Nat) (d : J) : Fls 30 #[.pointer (some ⟨b, 0, none⟩), jV d] (.bool false) [unB b] := Ctr.mk fun w F m C _ => x_ident_Set_Has _ _ _ _ _ _ _ _ _ _ _ w _ fun w1 L2 h1 g1 => by
  refine (c_un_none b).call (As := []) (C.hidL h1 g1) trivial fun _ m2 w4 hk hm _ C => ⟨_, rfl, hk, ?_⟩
  rw [if_pos rfl]; exact Ctr.ret (m' := m2) () rfl trivial C
theorem nil_all : Fls 32 #[.pointer none] (.slice none 0 0) [] := Ctr.mk fun w F m C _ => x_All_nil w _ <| by
  refine c_nil_none.call (As := []) C trivial fun _ m2 w4 hk hm _ C => ⟨_, rfl, hk.size, ?_⟩
  rw [if_pos rfl]; exact Ctr.ret (m' := m2) () rfl trivial C
theorem un_all (b : Nat) : Fls 32 #[.pointer (some ⟨b, 0, none⟩)] (.slice none 0 0) [unB b] := Ctr.mk fun w F m C _ => x_ident_Set_All _ w _ <| by
  refine (c_un_none b).call (As := []) C trivial fun _ m2 w4 hk hm _ C => ⟨_, rfl, hk.size, ?_⟩
  rw [if_pos rfl]; exact Ctr.ret (m' := m2) () rfl trivial C
theorem under_of {v : Value} {As : List Asn} (p : Int × Int) (hall : Fls 32 #[v] (.slice none 0 0) As) {w : World} {F : List Nat} {m : Mem} (C : Ctx F m w w [] m As) {R : Ending → World → Prop}
    (k : ∀ m2 w7, w.heap.size ≤ w7.heap.size → Ctx F m w w7 [] m2 As → R (.returned (.slice none 0 0)) w7) :
    X.CallX Try.prog 32 #[v] (w.alloc (.cells #[.int .u8 p.1, .int .u16 p.2] 31)) fun e1 w2 => ∃ q3 : Option Addr, ∃ k4 : Nat, ∃ k5 : Nat, (e1 = .returned (.slice q3 k4 k5)) ∧ ((w.alloc (.cells #[.int .u8 p.1, .int .u16 p.2] 31)).heap.size ≤ w2.heap.size) ∧
      X.CallX Try.prog 52 #[.slice q3 k4 k5, .func (.func 53) #[] #[.pointer (some ⟨w.heap.size, 0, none⟩)]] w2 fun e6 w7 => ∃ q8 : Option Addr, ∃ k9 : Nat, ∃ k10 : Nat, (e6 = .returned (.slice q8 k9 k10)) ∧ (w2.heap.size ≤ w7.heap.size) ∧ R (.returned (.slice q8 k9 k10)) w7 := by
  have C1 := C.alloc [.int .u8 p.1, .int .u16 p.2] 31
  refine hall.call (As := [blk w.heap.size [.int .u8 p.1, .int .u16 p.2] 31]) C1.rot trivial fun _ m1 w2 hk hm _ C => ⟨_, _, _, rfl, hk.size, ?_⟩
  have CD := c_DeleteFunc (z := ⟨w.heap.size, 0, none⟩) (c_Under1 w.heap.size p) none 0 [] (by simp)
  have C2 : Ctx F m w w2 [] m1 ((slA (.slice none 0 0) 0 [] 35 10 :: [blk w.heap.size [.int .u8 p.1, .int .u16 p.2] 31]) ++ As) := (Ctx.slNil (q := none) (C.perm List.perm_append_comm))
  refine CD.call (As := As) C2 trivial fun _ m2 w7 hk2 hm2 _ C => ⟨_, _, _, rfl, hk2.size, ?_⟩
  have hs : w.heap.size ≤ w2.heap.size := Nat.le_trans (by simp) hk.size
  exact k m2 w7 (Nat.le_trans hs hk2.size) C.drop.drop
theorem ds_nil : DS (.pointer none) [] where
  add d := Ctr.mk fun w F m C _ => x_Add_nil _ _ _ _ _ _ _ _ _ _ w _ fun w1 L2 h1 g1 => by
    refine c_nil_none.call (As := []) (C.hidL h1 g1) trivial fun _ m2 w4 hk hm _ C => ⟨_, rfl, hk, ?_⟩
    rw [if_neg (by decide)]; exact Ctr.ret (m' := m2) () rfl trivial C
  rem d := Ctr.mk fun w F m C _ => x_Remove_nil _ _ _ _ _ _ _ _ _ _ w _ fun w1 L2 h1 g1 => by
    refine (nil_has d).call (As := []) (C.hidL h1 g1) trivial fun _ m2 w4 hk hm _ C => ⟨_, rfl, hk, ?_⟩
    rw [if_neg (by decide)]; exact Ctr.ret (m' := m2) () rfl trivial C
  has := nil_has
  len := Ctr.mk fun w F m C _ => x_Len_nil w _ <| by
    refine c_nil_none.call (As := []) C trivial fun _ m2 w4 hk hm _ C => ⟨_, rfl, hk.size, ?_⟩
    rw [if_pos rfl]; exact Ctr.ret (m' := m2) () rfl trivial C
  all := nil_all
  under p := Ctr.mk fun w F m C _ => x_Under_nil _ _ w _ (under_of (R := fun e w' => ∃ (i : Unit) (m' : Mem) (L : List Nat), e = .returned (.slice none 0 0) ∧ True ∧ Ctx F m w w' L m' []) p nil_all C fun m2 w7 _ C => Ctr.ret (m' := m2) () rfl trivial C)
theorem ds_un (b : Nat) : DS (.pointer (some ⟨b, 0, none⟩)) [unB b] where
  add d := Ctr.mk fun w F m C _ => x_ident_Set_Add _ _ _ _ _ _ _ _ _ _ _ w _ fun w1 L2 h1 g1 => by
    refine (c_un_none b).call (As := []) (C.hidL h1 g1) trivial fun _ m2 w4 hk hm _ C => ⟨_, rfl, hk, ?_⟩
    rw [if_neg (by decide)]; exact Ctr.ret (m' := m2) () rfl trivial C
  rem d := Ctr.mk fun w F m C _ => x_ident_Set_Remove _ _ _ _ _ _ _ _ _ _ _ w _ fun w1 L2 h1 g1 => by
    refine (un_has b d).call (As := []) (C.hidL h1 g1) trivial fun _ m2 w4 hk hm _ C => ⟨_, rfl, hk, ?_⟩
    rw [if_neg (by decide)]; exact Ctr.ret (m' := m2) () rfl trivial C
  has := un_has b
  len := Ctr.mk fun w F m C _ => x_ident_Set_Len _ w _ <| by
    refine (c_un_none b).call (As := []) C trivial fun _ m2 w4 hk hm _ C => ⟨_, rfl, hk.size, ?_⟩
    rw [if_pos rfl]; exact Ctr.ret (m' := m2) () rfl trivial C
  all := un_all b
  under p := Ctr.mk fun w F m C _ => x_ident_Set_Under _ _ _ w _ (under_of (R := fun e w' => ∃ (i : Unit) (m' : Mem) (L : List Nat), e = .returned (.slice none 0 0) ∧ True ∧ Ctx F m w w' L m' [unB b]) p (un_all b) C fun m2 w7 _ C => Ctr.ret (m' := m2) () rfl trivial C)
theorem l_IdentNil (w : World) (d : J) : Calls Try.prog 6 #[jV d] w (LawR w) := by
  refine x_gemotlaw02_IdentNil _ _ _ _ _ _ _ _ _ _ w _ fun w1 L2 h1 g1 => ?_
  have C := (lawStart w).hidL h1 g1
  refine ⟨fun q i w' L' => ∃ (k : Nat) (m' : Mem) (As : List Asn), i = k ∧ k ≤ 2 ∧ DS (.pointer q) As ∧ Ctx [] (memOf w) w w' L' m' As, fun _ i _ => (2 - i).toNat, ⟨0, _, [], rfl, by omega, ds_nil, C⟩, ?_⟩
  clear C
  rintro q i w7 L8 _ ⟨k, m3, As, rfl, hk2, hd, C⟩
  by_cases hkk : k < 2
  rotate_left
  · rw [if_neg (by simp; omega)]
    exact C.gives c_knows fun w10 k10 C => ⟨_, rfl, k10, rfl, C.at_⟩
  rw [if_pos (by simp; omega)]
  have call0 : ∀ {f : FuncId} {args : Array Value} {r : Value} {Cs : List Asn} {w' L' m'} {R : Ending → World → Prop}, Fls f args r Cs → Ctx [] (memOf w) w w' L' m' Cs → (∀ m2 w2, Kept L' w' w2 → Ctx [] (memOf w) w w2 L' m2 Cs → R (.returned r) w2) → CallX Try.prog f args w' R := fun s C k =>
    s.call (As := []) (C.perm (by rw [List.append_nil])) trivial fun _ m2 w2 hk _ _ D => k m2 w2 hk (D.perm (by rw [List.append_nil]))
  refine C.gives (c_ID d.1) fun w13 k13 C => ⟨_, _, _, _, _, _, _, _, _, _, rfl, k13, ?_⟩
  refine call0 (hd.add d) C fun m4 w25 hk C => ⟨_, rfl, hk, ?_⟩
  refine C.gives (c_num 1) fun w28 k28 C => ⟨_, rfl, k28, ?_⟩
  rw [if_pos (by decide)]
  refine C.gives (c_ID d.1) fun w31 k31 C => ⟨_, _, _, _, _, _, _, _, _, _, rfl, k31, ?_⟩
  refine call0 (hd.rem d) C fun m5 w43 hk C => ⟨_, rfl, hk, ?_⟩
  rw [if_pos (by decide)]
  refine C.gives (c_ID d.1) fun w46 k46 C => ⟨_, _, _, _, _, _, _, _, _, _, rfl, k46, ?_⟩
  refine call0 (hd.has d) C fun m6 w58 hk C => ⟨_, rfl, hk, ?_⟩
  rw [if_pos (by decide)]
  refine call0 hd.len C fun m7 w61 hk C => ⟨_, rfl, hk, ?_⟩
  rw [if_pos (by decide)]
  refine call0 hd.all C fun m8 w64 hk C => ⟨_, _, _, rfl, hk, ?_⟩
  rw [if_pos (by decide)]
  refine C.gives (c_Proc d.1.n d.1.l) fun w69 k69 C => ⟨_, _, rfl, k69, ?_⟩
  refine call0 (hd.under (d.1.n, d.1.l)) C fun m9 w73 hk C => ⟨_, _, _, rfl, hk, ?_⟩
  rw [if_neg (by decide)]
  have e : IntKind.wrap .i64 ((k : Int) + 1) = ((k + 1 : Nat) : Int) := by rw [w_i64 (by omega) (by omega)]; omega
  rw [e]
  exact ⟨rfl, ⟨k + 1, m9, _, rfl, by omega, ds_un _, (C.alloc [.map none, .int .i64 0] 69).left (As := [_])⟩, Nat.le_of_eq (by show ((2 : Int) - ((k + 1 : Nat) : Int)).toNat + 1 = ((2 : Int) - (k : Int)).toNat; omega)⟩
end Go.Proofs
