import Derived.Test.YtfhjpjkecjlmjaaU08d
import Derived.Test.YtfhjpjkecjlmjaaV08b
set_option linter.unusedVariables false
set_option linter.unusedSimpArgs false
set_option maxRecDepth 10000
namespace Go.Proofs
open Go X RowKit
/-- whoever is no bag -/
structure Dead (v : Value) (As : List Asn) : Prop where
  look : ∀ i : Int, Ctr Try.prog 15 #[v, .int .i64 i] noMem As (fun _ : Unit => .tuple #[zeroV, .int .i64 1]) (fun _ _ => True) (fun _ => As)
  take : ∀ i : Int, Ctr Try.prog 12 #[v, .int .i64 i] noMem As (fun _ : Unit => .tuple #[zeroV, .int .i64 1]) (fun _ _ => True) (fun _ => As)
  twice : ∀ i : Int, Ctr Try.prog 13 #[v, .int .i64 i] noMem As (fun _ : Unit => .int .i64 1) (fun _ _ => True) (fun _ => As)
  spoil : ∀ i a k : Int, Ctr Try.prog 14 #[v, .int .i64 i, .int .i64 a, .int .u32 k] noMem As (fun _ : Unit => .int .i64 1) (fun _ _ => True) (fun _ => As)
  len : Ctr Try.prog 23 #[v] noMem As (fun _ : Unit => .int .i64 0) (fun _ _ => True) (fun _ => As)
  all : Ctr Try.prog 24 #[v] noMem As (fun _ : Unit => .slice none 0 0) (fun _ _ => True) (fun _ => As)
  put : ∀ (p : Pc) (q : Option Addr) (c : Nat), Ctr Try.prog 10 #[v, p.V q c] noMem As (fun _ : Unit => .int .i64 1) (fun _ _ => True) (fun _ => As)
theorem dead_nil : Dead (.pointer none) [] := ⟨n_Look, n_Take, n_Twice, n_Spoil, n_Len, n_All, n_Put⟩
theorem dead_un (b : Nat) : Dead (.pointer (some ⟨b, 0, none⟩)) [blk b nilB 65] := ⟨d_Look b, d_Take b, d_Twice b, d_Spoil b, d_Len b, d_All b, d_Put b⟩
theorem l_BagNil (w : World) (kd i at_ mask : Int) (p : Pc) (q : Option Addr) (c : Nat) (hp : MSrc (memOf w) 1 (.slice q p.bs.length c) p.bs.length (byV p.bs)) :
    Calls Try.prog 6 #[.agg #[.int .i64 kd, .int .i64 i, .int .i64 at_, .int .u32 mask, .int .u8 p.fn, .int .u16 p.fl, .int .u8 p.tn, .int .u16 p.tl, .slice q p.bs.length c, .bool p.bad]] w (LawR w) := by
  refine x_gemotlaw08_BagNil _ _ _ _ _ _ _ _ _ _ _ _ w _ ?_
  have C := lawStart w
  by_cases hl : (p.bs.length : Int) > 2000
  · rw [if_pos (by simpa using hl)]
    intro w1 L1 h1 g1
    refine c_knows.call (C.hidL h1 g1) trivial fun _ m1 w2 hk hm _ C => ⟨_, rfl, hk, rfl, C.at_⟩
  · rw [if_neg (by simpa using hl)]
    intro w1 L1 h1 g1
    refine ⟨fun q n w' L => 0 ≤ n ∧ n ≤ 2 ∧ ∃ As m, Dead (.pointer q) As ∧ Ctx [] (memOf w) w w' L m As, fun q n _ => (2 - n).toNat, ⟨by omega, by omega, [], _, dead_nil, C.hidL h1 g1⟩, ?_⟩
    rintro q5 n6 w7 L8 _ ⟨h0, h2, As, m, D, C⟩
    by_cases hlt : n6 < 2
    · rw [if_pos (by simpa using hlt)]
      have C0 : ∀ {w' L m}, Ctx [] (memOf w) w w' L m As → Ctx [] (memOf w) w w' L m (As ++ []) := fun C => by rwa [List.append_nil]
      have C1 : ∀ {w' L m}, Ctx [] (memOf w) w w' L m (As ++ []) → Ctx [] (memOf w) w w' L m As := fun C => by rwa [List.append_nil] at C
      refine (D.look i).call (C0 C) trivial fun _ m1 w13 hk hm _ C => ⟨_, _, _, _, _, _, _, _, _, rfl, hk, fun w23 L24 h23 g23 => ?_⟩
      replace C := C.hidL h23 g23
      refine (D.take i).call C trivial fun _ m2 w26 hk hm _ C => ⟨_, _, _, _, _, _, _, _, _, rfl, hk, fun w36 L37 h36 g36 => ?_⟩
      replace C := C1 (C.hidL h36 g36)
      refine (c_Own p q c (by omega)).call (As := As) C (hp.mono C.le) fun x m3 w39 hk hm _ C => ⟨_, _, _, _, _, _, _, _, rfl, hk, ?_⟩
      replace C := C0 (Ctx.drop C)
      refine (D.put p x.1 x.2).call C trivial fun _ m4 w49 hk hm _ C => ⟨_, rfl, hk, ?_⟩
      refine C.gives (c_num _) fun w52 k52 C => ⟨_, rfl, k52, ?_⟩
      rw [if_pos (by decide)]
      refine C.gives (c_num _) fun w55 k55 C => ⟨_, rfl, k55, ?_⟩
      rw [if_pos (by decide)]
      refine C.gives (c_num _) fun w58 k58 C => ⟨_, rfl, k58, ?_⟩
      rw [if_pos (by decide)]
      refine (D.twice i).call C trivial fun _ m5 w61 hk hm _ C => ⟨_, rfl, hk, ?_⟩
      refine C.gives (c_num _) fun w64 k64 C => ⟨_, rfl, k64, ?_⟩
      rw [if_pos (by decide)]
      refine (D.spoil i at_ mask).call C trivial fun _ m6 w67 hk hm _ C => ⟨_, rfl, hk, ?_⟩
      refine C.gives (c_num _) fun w70 k70 C => ⟨_, rfl, k70, ?_⟩
      rw [if_pos (by decide)]
      refine D.len.call C trivial fun _ m7 w73 hk hm _ C => ⟨_, rfl, hk, ?_⟩
      rw [if_pos (by decide)]
      refine D.all.call C trivial fun _ m8 w76 hk hm _ C => ⟨_, _, _, rfl, hk, ?_⟩
      rw [if_neg (by decide)]
      have e : IntKind.wrap .i64 (n6 + 1) = n6 + 1 := w_i64 (by omega) (by omega)
      refine ⟨rfl, ?_, ?_⟩
      · rw [e]
        refine ⟨by omega, by omega, [blk w76.heap.size nilB 65], m8, dead_un _, ?_⟩
        exact ((C.alloc nilB 65).perm (Bs := As ++ [] ++ [blk w76.heap.size nilB 65]) (List.perm_append_comm (l₁ := [blk w76.heap.size nilB 65])) |> fun C => C.sub fun F hF _ => by
          obtain ⟨F1, F2, rfl, _, h1, h2⟩ := hF.split
          exact ⟨F2, h2, fun b hb => by simp [hb]⟩)
      · show (2 - IntKind.wrap .i64 (n6 + 1)).toNat + 1 ≤ (2 - n6).toNat
        rw [e]; omega
    · rw [if_neg (by simpa using hlt)]
      refine c_knows.call (As := As) C trivial fun _ m1 w2 hk hm _ C => ⟨_, rfl, hk, rfl, C.at_⟩
end Go.Proofs
