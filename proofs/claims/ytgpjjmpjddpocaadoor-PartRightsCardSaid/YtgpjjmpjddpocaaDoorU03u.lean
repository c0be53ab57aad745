import Derived.Test.YtgpjjmpjddpocaaDoorU03t
set_option linter.unusedVariables false
set_option linter.unusedSimpArgs false
set_option maxRecDepth 10000
namespace Go.Proofs
open Go X RowKit
theorem w1n (k : Nat) (hk : k ≤ 1000000000000000000) : IntKind.wrap .i64 ((k : Int) + 1) = ((k + 1 : Nat) : Int) := by rw [w_i64 (by omega) (by omega)]; omega
theorem mnI (c : Int) (k : Nat) (hc : 0 ≤ c) : 0 ≤ (if c < (k : Int) then c else (k : Int)) ∧ (if c < (k : Int) then c else (k : Int)) ≤ c ∧ (if c < (k : Int) then c else (k : Int)) ≤ k := by split <;> omega
theorem c_Light3 (q : Sl) (l : List Pt) : Ctr Tryd.prog 11 #[slV q l.length] (fun m => MSrc m 5 (slV q l.length) l.length (l.flatMap Pt.row)) [] (fun b : Bool => .bool b) (fun _ _ => True) (fun _ => []) := by
  refine Ctr.mk fun w F m C hp => x_Light3 _ _ _ w _ ?_
  refine ⟨fun n i w' _ => ∃ j : Nat, i = j ∧ j ≤ 300 ∧ -9000 ≤ n ∧ n ≤ 3000 ∧ Ctx F m w w' [] m [], fun _ i _ => (300 - i).toNat, ⟨0, rfl, by omega, by omega, by omega, C⟩, ?_⟩
  clear C
  rintro n i w5 L6 _ ⟨j, rfl, hj, h1, h2, D⟩
  by_cases hg : ((decide ((j : Int) < ((l.length : Nat) : Int)) && decide ((j : Int) < 300)) && decide (n ≥ 0)) = true
  · rw [if_pos hg]
    simp only [Bool.and_eq_true, decide_eq_true_eq] at hg
    have hjl : j < l.length := by omega
    obtain ⟨a, ha, hc⟩ := hp.elem pt_len hjl
    refine ⟨by omega, by omega, ?_⟩
    rw [ha, onSome_some]
    have hcc := D.cells hc
    rw [Int.toNat_natCast]
    refine ⟨_, hcc 2 _ rfl, by omega, by omega, ?_⟩
    rw [onSome_some]
    refine ⟨_, hcc 3 _ rfl, fun w11 h11 => ?_⟩
    obtain ⟨a1, a2, _⟩ := mnI 4000 l[j].key.size (by omega)
    obtain ⟨b1, b2, _⟩ := mnI 4000 l[j].val.size (by omega)
    generalize (if (4000 : Int) < ((l[j].key.size : Nat) : Int) then (4000 : Int) else ((l[j].key.size : Nat) : Int)) = x at a1 a2 ⊢
    generalize (if (4000 : Int) < ((l[j].val.size : Nat) : Int) then (4000 : Int) else ((l[j].val.size : Nat) : Int)) = y at b1 b2 ⊢
    rw [w_i64 (n := n - 3) (by omega) (by omega), w_i64 (n := n - 3 - x) (by omega) (by omega), w_i64 (n := n - 3 - x - y) (by omega) (by omega), w_i64 (n := (j : Int) + 1) (by omega) (by omega)]
    exact ⟨⟨j + 1, by omega, by omega, by omega, by omega, D.hid0 h11⟩, Nat.le_of_eq (by show (300 - ((j : Int) + 1)).toNat + 1 = (300 - (j : Int)).toNat; omega)⟩
  · rw [if_neg hg]
    exact Ctr.ret (decide (n ≥ 0)) rfl trivial D
/-- PartRights -/
theorem l_PartRights (w : World) (hT : Tab w) (q : Option Addr) (c : Nat) (l : List Pt) (r : Rs) (hs : MSrc (memOf w) 5 (.slice q l.length c) l.length (l.flatMap Pt.row)) (hl : l.length * 48 ≤ 140737488355328) (hp : ∀ p ∈ l, PtIn p) :
    Calls Tryd.prog 4 #[.slice q l.length c, .agg r.row.toArray] w (LawR w) := by
  refine x_PartRights _ _ _ _ _ w _ fun w1 L2 h1 g1 => ?_
  have C := (lawStart w).hidL h1 g1
  refine (c_Light3 (q, c) l).call (As := []) C hs fun b m1 w4 hk hm1 _ C => ⟨b, rfl, hk, ?_⟩
  by_cases hb : ((!b) || decide (((r.v.size : Nat) : Int) > 3000)) = true
  · rw [if_pos hb]
    exact c_knows C hT fun w73 m2 hk _ C => ⟨_, rfl, hk, rfl, Ctx.at_ C⟩
  rw [if_neg hb]
  replace hs := hs.mono hm1
  refine ⟨fun n w' L' => ∃ (i : Nat) (m : Mem), n = i ∧ i ≤ l.length ∧ m1.le m ∧ Ctx [] (memOf w) w w' L' m [], fun n _ => (l.length - n).toNat, ⟨0, m1, rfl, by omega, Mem.le_refl _, C⟩, ?_⟩
  clear C
  rintro n w9 L10 _ ⟨i, m, rfl, hi, hm, C⟩
  by_cases hlt : i < l.length
  · rw [if_pos (by simpa using hlt)]
    obtain ⟨pa, rfl, hcell⟩ := (hs.mono hm).elem pt_len hlt
    have hfw : ∀ {w' L'}, Ctx [] (memOf w) w w' L' m [] → FactsW [(pa.add (i * 5), l[i].row)] w' L' := fun C => C.memFact hcell (facts_nil _ _)
    refine ⟨_, hfw C, by omega, by simpa using hlt, ?_⟩
    rw [onSome_some]
    refine ⟨_, _, _, _, _, by rw [Int.toNat_natCast]; exact List.mem_cons_self, by omega, by simpa using hlt, ?_⟩
    rw [onSome_some]
    refine ⟨_, _, _, _, _, by rw [Int.toNat_natCast]; exact List.mem_cons_self, fun w57 L58 h57 g57 => ?_⟩
    refine (C.hidL h57 g57).gives (c_Part l[i]) fun w60 k60 C => ⟨_, _, _, _, _, rfl, k60, hfw C, ?_⟩
    refine C.gives (c_PRight l[i]) fun w67 k67 C => ⟨_, rfl, k67, hfw C, ?_⟩
    refine C.gives (c_r3Right l[i] (hp _ (List.getElem_mem hlt)).k.1) fun w70 k70 C => ⟨_, rfl, k70, hfw C, ?_⟩
    rw [if_neg (by simp), w1n i (by omega)]
    exact ⟨rfl, ⟨i + 1, m, rfl, hlt, hm, C⟩, Nat.le_of_eq (by show ((l.length : Int) - ((i + 1 : Nat) : Int)).toNat + 1 = ((l.length : Int) - (i : Int)).toNat; omega)⟩
  rw [if_neg (by simpa using hlt)]
  replace hs := hs.mono hm
  refine ⟨[], facts_nil _ _, fun w12 L13 h12 g12 => ?_⟩
  refine (c_Parts (q, c) l hl).call (As := []) (C.hidL h12 g12) hs fun q2 m2 w15 hk hm2 hs2 C => ⟨q2.1, _, q2.2, rfl, hk, facts_nil _ _, [], facts_nil _ _, (fun _ h => h), ?_⟩
  refine (c_partRight q2 l hl).call (As := []) C hs2 fun _ m3 w22 hk hm3 _ C => ⟨_, rfl, hk, facts_nil _ _, [], facts_nil _ _, (fun _ h => h), ?_⟩
  refine (c_r3RightAll (q, c) l hl (fun p h => (hp p h).k.1)).call (As := []) C ((hs.mono hm2).mono hm3) fun _ m4 w27 hk hm4 _ C => ⟨_, rfl, hk, facts_nil _ _, [], facts_nil _ _, (fun _ h => h), ?_⟩
  rw [if_pos (by simp)]
  refine C.gives (c_Res3 r.c r.v) fun w32 k32 C => ⟨_, _, rfl, k32, facts_nil _ _, ?_⟩
  refine C.gives (c_ResRight r) fun w36 k36 C => ⟨_, rfl, k36, facts_nil _ _, ?_⟩
  refine C.gives (c_rRightRes r) fun w39 k39 C => ⟨_, rfl, k39, facts_nil _ _, ?_⟩
  rw [if_pos (by simp)]
  exact c_knows C hT fun w42 m5 hk _ C => ⟨_, rfl, hk, facts_nil _ _, rfl, Ctx.at_ C⟩
end Go.Proofs
