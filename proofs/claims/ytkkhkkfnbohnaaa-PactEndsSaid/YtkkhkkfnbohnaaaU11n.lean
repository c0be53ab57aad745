import Derived.Test.YtkkhkkfnbohnaaaU11g
import Derived.Test.YtkkhkkfnbohnaaaV11d
set_option linter.unusedVariables false
set_option linter.unusedSimpArgs false
set_option maxRecDepth 10000
namespace Go.Proofs
open Go X RowKit
theorem c_EqualFuncE (q q' : Sl) (l l' : List En) (hb : l.length ≤ 1000000) : Ctr Try.prog 84 #[slV q l.length, slV q' l'.length, .func (.func 85) #[] #[]] (fun m => EsM m q l ∧ EsM m q' l') [] (fun _ : Unit => .bool (decide (l.map En.er = l'.map En.er))) (fun _ _ => True) (fun _ => []) := by
  refine Ctr.mk fun w F m C hp => x_EqualFuncE _ _ _ _ _ _ w _ ?_
  obtain ⟨⟨h1, g1⟩, ⟨h2, g2⟩⟩ := hp
  by_cases hl : l.length = l'.length
  rotate_left
  · rw [if_pos (by simp; omega)]
    exact Ctr.ret () (by rw [decide_eq_false (fun h => hl (by simpa using congrArg List.length h))]) trivial C
  rw [if_neg (by simp [hl])]
  refine ⟨fun i w' _ => ∃ (j : Nat) (m' : Mem), i = j ∧ j ≤ l.length ∧ m.le m' ∧ (l.take j).map En.er = (l'.take j).map En.er ∧ Ctx F m w w' [] m' [], fun i _ => (l.length - i).toNat, ⟨0, m, rfl, by omega, Mem.le_refl _, rfl, C⟩, ?_⟩
  clear C
  rintro i w4 L5 _ ⟨j, m', rfl, hj, hm, hjt, D⟩
  by_cases hjl : j < l.length
  rotate_left
  · rw [if_neg (by simpa using hjl)]
    have hj2 : j = l.length := by omega
    rw [hj2, List.take_length, hl, List.take_length] at hjt
    exact Ctr.ret () (by rw [decide_eq_true hjt]) trivial D
  rw [if_pos (by simpa using hjl)]
  obtain ⟨a1, ha1, hc1⟩ := (h1.mono hm).elem en_len hjl
  obtain ⟨a2, ha2, hc2⟩ := (h2.mono hm).elem en_len (show j < l'.length by omega)
  refine ⟨by omega, by simpa using hjl, ?_⟩
  rw [ha1, onSome_some]
  refine ⟨_, _, _, _, _, _, _, _, _, _, _, _, _, _, _, _, _, _, _, _, _, _, by rw [Int.toNat_natCast]; exact D.cells hc1, by omega, by omega, ?_⟩
  rw [ha2, onSome_some]
  refine ⟨_, _, _, _, _, _, _, _, _, _, _, _, _, _, _, _, _, _, _, _, _, _, by rw [Int.toNat_natCast]; exact D.cells hc2, fun w53 L53 h53 g53 => ?_⟩
  replace D := D.hidL h53 g53

  refine (c_eSame l[j] (l'[j]'(by omega))).call (As := []) D ⟨(g1 _ (List.getElem_mem hjl)).mono hm, (g2 _ (List.getElem_mem (by omega))).mono hm⟩ fun _ m2 w55 hk hm2 _ D => ⟨_, rfl, hk, ?_⟩
  by_cases he : l[j].er = (l'[j]'(by omega)).er
  · rw [if_neg (by simp [he])]
    have e : IntKind.wrap .i64 ((j : Int) + 1) = ((j + 1 : Nat) : Int) := by rw [w_i64 (by omega) (by omega)]; omega
    rw [e]
    refine ⟨⟨j + 1, m2, rfl, hjl, hm.le_trans hm2, ?_, D.noL⟩, Nat.le_of_eq (by show ((l.length : Int) - ((j + 1 : Nat) : Int)).toNat + 1 = ((l.length : Int) - (j : Int)).toNat; omega)⟩
    rw [List.take_succ_eq_append_getElem hjl, List.take_succ_eq_append_getElem (by omega : j < l'.length), List.map_append, List.map_append, hjt]; simp [he]
  · rw [if_pos (by simp [he])]
    refine Ctr.ret () ?_ trivial D
    rw [decide_eq_false (fun h => he ?_)]
    have := congrArg (fun z => z[j]?) h
    simpa [hjl, show j < l'.length by omega] using this
theorem c_eSameAll (q q' : Sl) (l l' : List En) (hb : l.length ≤ 1000000) : Ctr Try.prog 69 #[slV q l.length, slV q' l'.length] (fun m => EsM m q l ∧ EsM m q' l') [] (fun _ : Unit => .bool (decide (l.map En.er = l'.map En.er))) (fun _ _ => True) (fun _ => []) := by
  refine Ctr.mk fun w F m C hp => x_eSameAll _ _ _ _ _ _ w _ ?_
  exact (c_EqualFuncE q q' l l' hb).call (As := []) C hp fun _ m1 w2 hk hm _ C => ⟨_, rfl, hk.size, Ctr.ret () rfl trivial C⟩
theorem c_SameV (a b : Vl) : Ctr Try.prog 45 #[.agg a.row.toArray, .agg b.row.toArray] (fun m => VlM m a ∧ VlM m b) [] (fun _ : Unit => .bool (decide (a.er = b.er))) (fun _ _ => True) (fun _ => []) := by
  refine Ctr.mk fun w F m C hv => x_SameV _ _ _ _ _ _ _ _ _ _ _ _ w _ fun w1 L2 h1 g1 => ?_
  obtain ⟨ha, hb⟩ := hv
  refine (c_EqualPr a.mq b.mq a.ms b.ms (by have := ha.ml; omega)).call (As := []) (C.hidL h1 g1) ⟨ha.pm, hb.pm⟩ fun _ m1 w4 hk hm1 _ C => ⟨_, rfl, hk, ?_⟩
  by_cases hms : a.ms = b.ms
  · rw [if_pos (by simp [hms])]
    refine (c_eSameAll a.tq b.tq a.ts b.ts (by have := ha.tl; omega)).call (As := []) C ⟨ha.t.mono hm1, hb.t.mono hm1⟩ fun _ m2 w7 hk hm2 _ C => ⟨_, rfl, hk, ?_⟩
    exact Ctr.ret () (by simp [Vl.er, hms]) trivial C
  · rw [if_neg (by simp [hms])]
    exact Ctr.ret () (by rw [decide_eq_false]; intro h; exact hms (congrArg Prod.fst h)) trivial C
/-! ### nobody, and those that nobody made -/
abbrev Fls (f : FuncId) (args : Array Value) (pre : Mem → Prop) (r : Value) (As : List Asn) : Prop := Ctr Try.prog f args pre As (fun _ : Unit => r) (fun _ _ => True) (fun _ => As)
structure DA (v : Value) (As : List Asn) : Prop where
  prep : ∀ n : Int, Fls 11 #[v, .int .u64 n] noMem (.bool false) As
  acc : ∀ (n : Int) (u : Vl), Fls 13 #[v, .int .u64 n, .agg u.row.toArray] noMem (.bool false) As
  held : Fls 16 #[v] noMem (.tuple #[.int .u64 0, .agg vl0.row.toArray, .bool false]) As
  prom : Fls 17 #[v] noMem (.int .u64 0) As
theorem c_nil_Anone : Fls 48 #[.pointer none] noMem (.bool true) [] := Ctr.mk fun w F m C _ => x_nil_Anone w _ (Ctr.ret () rfl trivial C)
abbrev rbA (b : Nat) : Asn := blk b (acp0.cells false) 102
theorem c_un_Anone (b : Nat) : Fls 48 #[.pointer (some ⟨b, 0, none⟩)] noMem (.bool true) [rbA b] := Ctr.mk fun w F m C _ => x_Anone _ w _ ⟨false, by rw [Addr.add_mid]; exact C.blkCell (j := 4) rfl, Ctr.ret () rfl trivial C⟩
theorem da_nil_prep (n : Int) : Fls 11 #[(.pointer none), .int .u64 n] noMem (.bool false) [] := Ctr.mk fun w F m C _ => x_nil_Prepare _ w _ <| by
    refine c_nil_Anone.call (As := []) C trivial fun _ m2 w12 hk hm2 _ C => ⟨_, rfl, hk.size, ?_⟩
    rw [if_neg (by simp)]
    exact Ctr.ret (m' := m2) () rfl trivial C
theorem da_nil : DA (.pointer none) [] where
  prep := fun n => Ctr.mk fun w F m C _ => x_nil_Prepare _ w _ <| by
    refine c_nil_Anone.call (As := []) C trivial fun _ m2 w12 hk hm2 _ C => ⟨_, rfl, hk.size, ?_⟩
    rw [if_neg (by simp)]
    exact Ctr.ret (m' := m2) () rfl trivial C
  acc := fun n u => Ctr.mk fun w F m C _ => x_nil_Accept _ _ _ _ _ _ _ w _ fun w1 L2 h1 g1 => by
    refine (da_nil_prep n).call (As := []) (C.hidL h1 g1) trivial fun _ m2 w12 hk hm2 _ C => ⟨_, rfl, hk, ?_⟩
    rw [if_neg (by decide)]
    exact Ctr.ret (m' := m2) () rfl trivial C
  held := Ctr.mk fun w F m C _ => x_nil_Held  w _ fun w1 L2 h1 g1 => by
    refine c_nil_Anone.call (As := []) (C.hidL h1 g1) trivial fun _ m2 w12 hk hm2 _ C => ⟨_, rfl, hk, ?_⟩
    rw [if_neg (by decide)]
    exact fun w6 h6 => Ctr.ret (m' := m2) (L := []) () rfl trivial (C.hid0 h6)
  prom := Ctr.mk fun w F m C _ => x_nil_Promised  w _ <| by
    refine c_nil_Anone.call (As := []) C trivial fun _ m2 w12 hk hm2 _ C => ⟨_, rfl, hk.size, ?_⟩
    rw [if_pos (by simp)]
    exact Ctr.ret (m' := m2) () rfl trivial C
theorem da_un_prep (bk : Nat) (n : Int) : Fls 11 #[(.pointer (some ⟨bk, 0, none⟩)), .int .u64 n] noMem (.bool false) [rbA bk] := Ctr.mk fun w F m C _ => x_Prepare _ _ w _ <| by
    refine (c_un_Anone bk).call (As := []) C trivial fun _ m2 w12 hk hm2 _ C => ⟨_, rfl, hk.size, ?_⟩
    rw [if_neg (by simp)]
    exact Ctr.ret (m' := m2) () rfl trivial C
theorem da_un (bk : Nat) : DA (.pointer (some ⟨bk, 0, none⟩)) [rbA bk] where
  prep := fun n => Ctr.mk fun w F m C _ => x_Prepare _ _ w _ <| by
    refine (c_un_Anone bk).call (As := []) C trivial fun _ m2 w12 hk hm2 _ C => ⟨_, rfl, hk.size, ?_⟩
    rw [if_neg (by simp)]
    exact Ctr.ret (m' := m2) () rfl trivial C
  acc := fun n u => Ctr.mk fun w F m C _ => x_Accept _ _ _ _ _ _ _ _ w _ fun w1 L2 h1 g1 => by
    refine (da_un_prep bk n).call (As := []) (C.hidL h1 g1) trivial fun _ m2 w12 hk hm2 _ C => ⟨_, rfl, hk, ?_⟩
    rw [if_neg (by decide)]
    exact Ctr.ret (m' := m2) () rfl trivial C
  held := Ctr.mk fun w F m C _ => x_Held _ w _ fun w1 L2 h1 g1 => by
    refine (c_un_Anone bk).call (As := []) (C.hidL h1 g1) trivial fun _ m2 w12 hk hm2 _ C => ⟨_, rfl, hk, ?_⟩
    rw [if_neg (by decide)]
    exact fun w6 h6 => Ctr.ret (m' := m2) (L := []) () rfl trivial (C.hid0 h6)
  prom := Ctr.mk fun w F m C _ => x_Promised _ w _ <| by
    refine (c_un_Anone bk).call (As := []) C trivial fun _ m2 w12 hk hm2 _ C => ⟨_, rfl, hk.size, ?_⟩
    rw [if_pos (by simp)]
    exact Ctr.ret (m' := m2) () rfl trivial C
structure DP (v : Value) (As : List Asn) : Prop where
  prom : ∀ (p : Pr) (tq : Sl) (n : Nat) (acc : Int) (u : Vl) (has : Bool), Fls 26 #[v, .agg p.row.toArray, slV tq n, .int .u64 acc, .agg u.row.toArray, .bool has] noMem (.tuple #[]) As
  ready : Fls 36 #[v] noMem (.bool false) As
  prop : ∀ (wq : Sl) (n : Nat), Fls 30 #[v, slV wq n] noMem (.tuple #[.agg vl0.row.toArray, .bool false]) As
  acc : ∀ p : Pr, Fls 33 #[v, .agg p.row.toArray] noMem (.bool false) As
  phase : Fls 35 #[v] noMem (.int .i64 0) As
  bal : Fls 38 #[v] noMem (.int .u64 0) As
  miss : Fls 42 #[v] noMem (.slice none 0 0) As
  val : Fls 39 #[v] noMem (.agg vl0.row.toArray) As
def unPp : List Value := [.int .u8 0, .int .u32 0, .slice none 0 0, .int .u64 0, .int .i64 0, .map none, .int .u64 0, .pointer none, .slice none 0 0, .slice none 0 0, .slice none 0 0]
abbrev upA (b : Nat) : Asn := blk b unPp 106
theorem c_nil_Pnone : Fls 61 #[.pointer none] noMem (.bool true) [] := Ctr.mk fun w F m C _ => x_nil_Pnone w _ (Ctr.ret () rfl trivial C)
theorem c_un_Pnone (b : Nat) : Fls 61 #[.pointer (some ⟨b, 0, none⟩)] noMem (.bool true) [upA b] := Ctr.mk fun w F m C _ => x_Pnone _ w _ ⟨none, by rw [Addr.add_mid]; exact C.blkCell (j := 5) rfl, Ctr.ret () rfl trivial C⟩
theorem dp_nil_count (p : Pr) (c : Int) : Fls 55 #[(.pointer none), .agg p.row.toArray, .int .i64 c] noMem (.bool false) [] := Ctr.mk fun w F m C _ => x_nil_count _ _ _ w _ ⟨[], facts_nil _ _, fun w2 L3 h2 g2 => by
    refine c_nil_Pnone.call (As := []) (C.hidL h2 g2) trivial fun _ m2 w12 hk hm2 _ C => ⟨_, rfl, hk, facts_nil _ _, [], facts_nil _ _, by simp, ?_⟩
    rw [if_neg (by decide)]
    exact ⟨[], facts_nil _ _, by simp, [], facts_nil _ _, by simp, Ctr.ret (m' := m2) () rfl trivial C⟩⟩
theorem dp_nil_phase : Fls 35 #[(.pointer none)] noMem (.int .i64 0) [] := Ctr.mk fun w F m C _ => x_nil_Phase  w _ <| by
    refine c_nil_Pnone.call (As := []) C trivial fun _ m2 w12 hk hm2 _ C => ⟨_, rfl, hk.size, ?_⟩
    rw [if_pos (by simp)]
    exact Ctr.ret (m' := m2) () rfl trivial C
theorem dp_nil_ready : Fls 36 #[(.pointer none)] noMem (.bool false) [] := Ctr.mk fun w F m C _ => x_nil_Ready  w _ <| by
    refine c_nil_Pnone.call (As := []) C trivial fun _ m2 w12 hk hm2 _ C => ⟨_, rfl, hk.size, ?_⟩
    rw [if_neg (by decide)]
    exact Ctr.ret (m' := m2) () rfl trivial C
theorem dp_nil : DP (.pointer none) [] where
  prom := fun p tq n acc u has => Ctr.mk fun w F m C _ => x_nil_Promise _ _ _ _ _ _ _ _ _ _ _ _ _ w _ fun w1 L2 h1 g1 => by
    refine (dp_nil_count p 0).call (As := []) (C.hidL h1 g1) trivial fun _ m2 w12 hk hm2 _ C => ⟨_, rfl, hk, ?_⟩
    rw [if_pos (by decide)]
    exact Ctr.ret (m' := m2) () rfl trivial C
  ready := dp_nil_ready
  prop := fun wq n => Ctr.mk fun w F m C _ => x_nil_Propose _ _ _ w _ fun w1 L2 h1 g1 => by
    refine (dp_nil_ready).call (As := []) (C.hidL h1 g1) trivial fun _ m2 w12 hk hm2 _ C => ⟨_, rfl, hk, ?_⟩
    rw [if_pos (by decide)]
    exact fun w6 h6 => Ctr.ret (m' := m2) (L := []) () rfl trivial (C.hid0 h6)
  acc := fun p => Ctr.mk fun w F m C _ => x_nil_Accepted _ _ w _ fun w1 L2 h1 g1 => by
    refine (dp_nil_count p 1).call (As := []) (C.hidL h1 g1) trivial fun _ m2 w12 hk hm2 _ C => ⟨_, rfl, hk, ?_⟩
    rw [if_neg (by decide)]
    refine (dp_nil_phase).call (As := []) C trivial fun _ m3 w13 hk hm3 _ C => ⟨_, rfl, hk, ?_⟩
    exact Ctr.ret (m' := m3) () rfl trivial C
  phase := dp_nil_phase
  bal := Ctr.mk fun w F m C _ => x_nil_PBallot  w _ <| by
    refine c_nil_Pnone.call (As := []) C trivial fun _ m2 w12 hk hm2 _ C => ⟨_, rfl, hk.size, ?_⟩
    rw [if_pos (by simp)]
    exact Ctr.ret (m' := m2) () rfl trivial C
  miss := Ctr.mk fun w F m C _ => x_nil_Missing  w _ <| by
    have C0 := C.alloc [(.pointer none)] 59
    refine ⟨_, C0.blkCell (j := 0) rfl, ?_⟩
    refine c_nil_Pnone.call (As := [_]) C0 trivial fun _ m2 w12 hk hm2 _ C => ⟨_, rfl, hk.size, ?_⟩
    rw [if_neg (by decide)]
    exact Ctr.ret (m' := m2) () rfl trivial C.drop
  val := Ctr.mk fun w F m C _ => x_nil_Value  w _ fun w1 L2 h1 g1 => by
    refine c_nil_Pnone.call (As := []) (C.hidL h1 g1) trivial fun _ m2 w12 hk hm2 _ C => ⟨_, rfl, hk, ?_⟩
    rw [if_pos (by simp)]
    exact fun w6 h6 => Ctr.ret (m' := m2) (L := []) () rfl trivial (C.hid0 h6)
theorem dp_un_count (bk : Nat) (p : Pr) (c : Int) : Fls 55 #[(.pointer (some ⟨bk, 0, none⟩)), .agg p.row.toArray, .int .i64 c] noMem (.bool false) [upA bk] := Ctr.mk fun w F m C _ => x_count _ _ _ _ w _ ⟨[], facts_nil _ _, fun w2 L3 h2 g2 => by
    refine (c_un_Pnone bk).call (As := []) (C.hidL h2 g2) trivial fun _ m2 w12 hk hm2 _ C => ⟨_, rfl, hk, facts_nil _ _, [], facts_nil _ _, by simp, ?_⟩
    rw [if_neg (by decide)]
    exact ⟨[], facts_nil _ _, by simp, [], facts_nil _ _, by simp, Ctr.ret (m' := m2) () rfl trivial C⟩⟩
theorem dp_un_phase (bk : Nat) : Fls 35 #[(.pointer (some ⟨bk, 0, none⟩))] noMem (.int .i64 0) [upA bk] := Ctr.mk fun w F m C _ => x_Phase _ w _ <| by
    refine (c_un_Pnone bk).call (As := []) C trivial fun _ m2 w12 hk hm2 _ C => ⟨_, rfl, hk.size, ?_⟩
    rw [if_pos (by simp)]
    exact Ctr.ret (m' := m2) () rfl trivial C
theorem dp_un_ready (bk : Nat) : Fls 36 #[(.pointer (some ⟨bk, 0, none⟩))] noMem (.bool false) [upA bk] := Ctr.mk fun w F m C _ => x_Ready _ w _ <| by
    refine (c_un_Pnone bk).call (As := []) C trivial fun _ m2 w12 hk hm2 _ C => ⟨_, rfl, hk.size, ?_⟩
    rw [if_neg (by decide)]
    exact Ctr.ret (m' := m2) () rfl trivial C
theorem dp_un (bk : Nat) : DP (.pointer (some ⟨bk, 0, none⟩)) [upA bk] where
  prom := fun p tq n acc u has => Ctr.mk fun w F m C _ => x_Promise _ _ _ _ _ _ _ _ _ _ _ _ _ _ w _ fun w1 L2 h1 g1 => by
    refine (dp_un_count bk p 0).call (As := []) (C.hidL h1 g1) trivial fun _ m2 w12 hk hm2 _ C => ⟨_, rfl, hk, ?_⟩
    rw [if_pos (by decide)]
    exact Ctr.ret (m' := m2) () rfl trivial C
  ready := dp_un_ready bk
  prop := fun wq n => Ctr.mk fun w F m C _ => x_Propose _ _ _ _ w _ fun w1 L2 h1 g1 => by
    refine (dp_un_ready bk).call (As := []) (C.hidL h1 g1) trivial fun _ m2 w12 hk hm2 _ C => ⟨_, rfl, hk, ?_⟩
    rw [if_pos (by decide)]
    exact fun w6 h6 => Ctr.ret (m' := m2) (L := []) () rfl trivial (C.hid0 h6)
  acc := fun p => Ctr.mk fun w F m C _ => x_Accepted _ _ _ w _ fun w1 L2 h1 g1 => by
    refine (dp_un_count bk p 1).call (As := []) (C.hidL h1 g1) trivial fun _ m2 w12 hk hm2 _ C => ⟨_, rfl, hk, ?_⟩
    rw [if_neg (by decide)]
    refine (dp_un_phase bk).call (As := []) C trivial fun _ m3 w13 hk hm3 _ C => ⟨_, rfl, hk, ?_⟩
    exact Ctr.ret (m' := m3) () rfl trivial C
  phase := dp_un_phase bk
  bal := Ctr.mk fun w F m C _ => x_PBallot _ w _ <| by
    refine (c_un_Pnone bk).call (As := []) C trivial fun _ m2 w12 hk hm2 _ C => ⟨_, rfl, hk.size, ?_⟩
    rw [if_pos (by simp)]
    exact Ctr.ret (m' := m2) () rfl trivial C
  miss := Ctr.mk fun w F m C _ => x_Missing _ w _ <| by
    have C0 := C.alloc [(.pointer (some ⟨bk, 0, none⟩))] 59
    refine ⟨_, C0.blkCell (j := 0) rfl, ?_⟩
    refine (c_un_Pnone bk).call (As := [_]) C0.swap trivial fun _ m2 w12 hk hm2 _ C => ⟨_, rfl, hk.size, ?_⟩
    rw [if_neg (by decide)]
    exact Ctr.ret (m' := m2) () rfl trivial C.swap.drop
  val := Ctr.mk fun w F m C _ => x_Value _ w _ fun w1 L2 h1 g1 => by
    refine (c_un_Pnone bk).call (As := []) (C.hidL h1 g1) trivial fun _ m2 w12 hk hm2 _ C => ⟨_, rfl, hk, ?_⟩
    rw [if_pos (by simp)]
    exact fun w6 h6 => Ctr.ret (m' := m2) (L := []) () rfl trivial (C.hid0 h6)
end Go.Proofs
