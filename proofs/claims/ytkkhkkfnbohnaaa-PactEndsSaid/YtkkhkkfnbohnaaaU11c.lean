import Derived.Test.YtkkhkkfnbohnaaaU11b
set_option linter.unusedVariables false
set_option linter.unusedSimpArgs false
set_option maxRecDepth 10000
namespace Go.Proofs
open Go X RowKit
/-! ### acceptors -/
structure Acp where (pr ac : Int) (v : Vl)
@[reducible] def Acp.cells (x : Acp) (b : Bool) : List Value := [.int .u64 x.pr, .int .u64 x.ac, slV x.v.mq x.v.ms.length, slV x.v.tq x.v.ts.length, .bool b]
def vl0 : Vl := ⟨(none, 0), [], (none, 0), []⟩
theorem vl0_M (m : Mem) : VlM m vl0 := ⟨.nil .., ⟨.nil .., by simp [vl0]⟩, by simp [vl0], by simp [vl0]⟩
def acp0 : Acp := ⟨0, 0, vl0⟩
abbrev aA (b : Nat) (x : Acp) : Asn := blk b (x.cells true) 102
abbrev rA (b : Nat) (x : Acp) (h : Bool) : Asn := blk b (x.cells h) 35
theorem c_NewAcc : Ctr Try.prog 10 #[] noMem [] (fun b : Nat => .pointer (some ⟨b, 0, none⟩)) (fun _ _ => True) (fun b => [aA b acp0]) :=
  Ctr.mk fun w F m C _ => x_NewAcc w _ (Ctr.ret _ rfl trivial (C.alloc (acp0.cells true) 102))
theorem c_Anone (b : Nat) (x : Acp) : Ctr Try.prog 48 #[.pointer (some ⟨b, 0, none⟩)] noMem [aA b x] (fun _ : Unit => .bool false) (fun _ _ => True) (fun _ => [aA b x]) :=
  Ctr.mk fun w F m C _ => x_Anone _ w _ ⟨true, by rw [Addr.add_mid]; exact C.blkCell (j := 4) rfl, Ctr.ret () rfl trivial C⟩
def prepF (x : Acp) (n : Int) : Bool × Acp := if n = 0 ∨ n < x.pr then (false, x) else (true, { x with pr := n })
def accF (x : Acp) (n : Int) (u : Vl) : Acp := if (prepF x n).1 then ⟨n, n, u⟩ else x
theorem prepF_f {x : Acp} {n : Int} (h : (prepF x n).1 = false) : (prepF x n).2 = x := by
  unfold prepF at h ⊢
  split at h
  · rename_i hc; rw [if_pos hc]
  · cases h
theorem prepF_t {x : Acp} {n : Int} (h : (prepF x n).1 = true) : (prepF x n).2 = { x with pr := n } := by
  unfold prepF at h ⊢
  split at h
  · cases h
  · rename_i hc; rw [if_neg hc]
theorem c_Prepare (b : Nat) (x : Acp) (n : Int) : Ctr Try.prog 11 #[.pointer (some ⟨b, 0, none⟩), .int .u64 n] noMem [aA b x] (fun _ : Unit => .bool (prepF x n).1) (fun _ _ => True) (fun _ => [aA b (prepF x n).2]) := by
  refine Ctr.mk fun w F m C _ => x_Prepare _ _ w _ ?_
  refine (c_Anone b x).call (As := []) C trivial fun _ m1 w2 hk hm _ C => ⟨_, rfl, hk.size, ?_⟩
  by_cases h0 : n = 0
  · have e : prepF x n = (false, x) := by rw [prepF, if_pos (.inl h0)]
    rw [if_neg (by simp [h0]), e]
    exact Ctr.ret () rfl trivial C
  rw [if_pos (by simp [h0])]
  refine ⟨x.pr, by rw [Addr.add_mid]; exact C.blkCell (j := 0) rfl, ?_⟩
  by_cases h1 : n < x.pr
  · have e : prepF x n = (false, x) := by rw [prepF, if_pos (.inr h1)]
    rw [if_pos (by simp [h1]), e]
    exact Ctr.ret () rfl trivial C
  have e : prepF x n = (true, { x with pr := n }) := by rw [prepF, if_neg (by omega)]
  rw [if_neg (by simp; omega), e, Addr.add_mid]
  exact ⟨rfl, C.there 0 1 (by simp), Ctr.ret () rfl trivial (C.store 0 [.int .u64 n] (by simp))⟩
theorem c_Accept (b : Nat) (x : Acp) (n : Int) (v : Vl) : Ctr Try.prog 13 #[.pointer (some ⟨b, 0, none⟩), .int .u64 n, .agg v.row.toArray] (fun m => VlM m v) [aA b x] (fun _ : Vl => .bool (prepF x n).1) (fun u m => VlM m u ∧ u.er = v.er) (fun u => [aA b (accF x n u)]) := by
  refine Ctr.mk fun w F m C hv => x_Accept _ _ _ _ _ _ _ _ w _ fun w1 L2 h1 g1 => ?_
  refine (c_Prepare b x n).call (As := []) (C.hidL h1 g1) trivial fun _ m1 w4 hk hm _ C => ⟨_, rfl, hk, ?_⟩
  replace hv := hv.mono hm
  cases hp : (prepF x n).1 with
  | false =>
    have e := prepF_f hp
    rw [if_neg (by decide)]
    rw [e] at C
    exact Ctr.ret (m' := m1) v rfl ⟨hv, rfl⟩ (by rw [accF, hp]; exact C)
  | true =>
    have e := prepF_t hp
    rw [if_pos rfl]
    rw [e] at C
    refine (c_cloneV v).call (As := [_]) C hv fun u m2 w7 hk hm hu C => ⟨_, _, _, _, _, _, rfl, hk, rfl, C.there 1 1 (by simp), C.blkAt.2, ?_⟩
    have D := C.store 1 [.int .u64 n] (by simp)
    refine ⟨rfl, D.there 2 2 (by simp [splice]), D.blkAt.2, ?_⟩
    have E := D.store 2 u.row (by simp [splice])
    exact Ctr.ret (m' := m2) u rfl hu (by rw [accF, hp]; exact E)
theorem c_Held (b : Nat) (x : Acp) : Ctr Try.prog 16 #[.pointer (some ⟨b, 0, none⟩)] (fun m => VlM m x.v) [aA b x] (fun u : Vl => .tuple #[.int .u64 x.ac, .agg u.row.toArray, .bool (decide (x.ac ≠ 0))]) (fun u m => VlM m u ∧ u.er = if x.ac = 0 then ([], []) else x.v.er) (fun _ => [aA b x]) := by
  refine Ctr.mk fun w F m C hv => x_Held _ w _ fun w1 L2 h1 g1 => ?_
  refine (c_Anone b x).call (As := []) (C.hidL h1 g1) trivial fun _ m1 w4 hk hm _ C => ⟨_, rfl, hk, ?_⟩
  replace hv := hv.mono hm
  rw [if_pos (by decide)]
  refine ⟨x.ac, by rw [Addr.add_mid]; exact C.blkCell (j := 1) rfl, C.blkAt.2, ?_⟩
  by_cases h0 : x.ac = 0
  · rw [if_pos (by simp [h0])]
    refine fun w27 h27 => Ctr.ret (m' := m1) (L := []) vl0 (by simp [h0, vl0]) ⟨vl0_M _, by rw [if_pos h0]; rfl⟩ (C.hid0 h27)
  rw [if_neg (by simp [h0])]
  refine ⟨_, C.blkFact1 (0 + 1) _ rfl (C.blkFact (0 + 2) x.v.row (fun k v e => by match k, e with | 0, e => exact e | 1, e => exact e) (facts_nil _ _)), x.ac, by simp [Addr.add_mid], x.v.mq.1, x.v.ms.length, x.v.mq.2, x.v.tq.1, x.v.ts.length, x.v.tq.2, by simp [Addr.add_mid], fun w16 L17 h16 g16 => ?_⟩
  have C' := C.hidL h16 g16
  refine (c_cloneV x.v).call (As := [_]) C' hv fun u m2 w19 hk hm hu D => ⟨_, _, _, _, _, _, rfl, hk, ?_, fun w26 h26 => ?_⟩
  · exact D.blkFact1 (0 + 1) _ rfl (D.blkFact (0 + 2) x.v.row (fun k v e => by match k, e with | 0, e => exact e | 1, e => exact e) (facts_nil _ _))
  · exact Ctr.ret (m' := m2) (L := []) u (by simp [h0]) ⟨hu.1, by rw [if_neg h0]; exact hu.2⟩ (D.hid0 h26)
theorem c_Promised (b : Nat) (x : Acp) : Ctr Try.prog 17 #[.pointer (some ⟨b, 0, none⟩)] noMem [aA b x] (fun _ : Unit => .int .u64 x.pr) (fun _ _ => True) (fun _ => [aA b x]) := by
  refine Ctr.mk fun w F m C _ => x_Promised _ w _ ?_
  refine (c_Anone b x).call (As := []) C trivial fun _ m1 w2 hk hm _ C => ⟨_, rfl, hk.size, ?_⟩
  rw [if_neg (by decide)]
  exact ⟨x.pr, by rw [Addr.add_mid]; exact C.blkCell (j := 0) rfl, Ctr.ret () rfl trivial C⟩
theorem c_rPrepare (b : Nat) (x : Acp) (h : Bool) (n : Int) : Ctr Try.prog 12 #[.pointer (some ⟨b, 0, none⟩), .int .u64 n] noMem [rA b x h] (fun _ : Unit => .bool (prepF x n).1) (fun _ _ => True) (fun _ => [rA b (prepF x n).2 h]) := by
  refine Ctr.mk fun w F m C _ => x_rPrepare _ _ w _ ?_
  by_cases h0 : n = 0
  · have e : prepF x n = (false, x) := by rw [prepF, if_pos (.inl h0)]
    rw [if_neg (by simp [h0]), e]
    exact Ctr.ret () rfl trivial C
  rw [if_pos (by simp [h0])]
  refine ⟨x.pr, by rw [Addr.add_mid]; exact C.blkCell (j := 0) rfl, ?_⟩
  by_cases h1 : n < x.pr
  · have e : prepF x n = (false, x) := by rw [prepF, if_pos (.inr h1)]
    rw [if_pos (by simp [h1]), e]
    exact Ctr.ret () rfl trivial C
  have e : prepF x n = (true, { x with pr := n }) := by rw [prepF, if_neg (by omega)]
  rw [if_neg (by simp; omega), e, Addr.add_mid]
  exact ⟨rfl, C.there 0 1 (by simp), Ctr.ret () rfl trivial (C.store 0 [.int .u64 n] (by simp))⟩
theorem c_rAccept (b : Nat) (x : Acp) (h : Bool) (n : Int) (v : Vl) : Ctr Try.prog 15 #[.pointer (some ⟨b, 0, none⟩), .int .u64 n, .agg v.row.toArray] noMem [rA b x h] (fun _ : Unit => .bool (prepF x n).1) (fun _ _ => True) (fun _ => [rA b (accF x n v) (h || (prepF x n).1)]) := by
  refine Ctr.mk fun w F m C hv => x_rAccept _ _ _ _ _ _ _ _ w _ fun w1 L2 h1 g1 => ?_
  refine (c_rPrepare b x h n).call (As := []) (C.hidL h1 g1) trivial fun _ m1 w4 hk hm _ C => ⟨_, rfl, hk, ?_⟩
  cases hp : (prepF x n).1 with
  | false =>
    have e := prepF_f hp
    rw [if_pos (by decide)]
    rw [e] at C
    exact Ctr.ret (m' := m1) () rfl trivial (by rw [accF, hp, Bool.or_false]; exact C)
  | true =>
    have e := prepF_t hp
    rw [if_neg (by decide)]
    rw [e] at C
    refine ⟨rfl, C.there 1 1 (by simp), C.blkAt.2, ?_⟩
    have D := C.store 1 [.int .u64 n] (by simp)
    refine ⟨rfl, D.there 2 2 (by simp [splice]), D.blkAt.2, ?_⟩
    have E := D.store 2 v.row (by simp [splice])
    refine ⟨rfl, E.there 4 1 (by simp [splice]), E.blkAt.2, ?_⟩
    have G := E.store 4 [.bool true] (by simp [splice])
    exact Ctr.ret (m' := m1) () rfl trivial (by rw [accF, hp, Bool.or_true]; exact G)
/-! ### ballots -/
def bal (r n : Int) : Int := r * 256 + n
theorem c_Ballot (r n : Int) (hr : 0 ≤ r ∧ r < 4294967296) (hn : 0 ≤ n ∧ n < 256) : Gives Try.prog 20 #[.int .u32 r, .int .u8 n] (.int .u64 (bal r n)) := fun w => x_Ballot _ _ w _ <| by
  refine ⟨?_, below_refl _ w⟩
  obtain ⟨A, rfl⟩ := Int.eq_ofNat_of_zero_le hr.1
  obtain ⟨B, rfl⟩ := Int.eq_ofNat_of_zero_le hn.1
  rw [w_u64 (n := (A : Int)) (by omega) (by omega), w_u64 (n := (A : Int) * 256) (by omega) (by omega), w_u64 (n := (B : Int)) (by omega) (by omega)]
  have e1 : BitVec.ofInt 64 ((A : Int) * 256) = BitVec.ofNat 64 (A * 256) := by
    rw [show (A : Int) * 256 = ((A * 256 : Nat) : Int) by omega]; exact BitVec.ofInt_natCast _ _
  have e2 : BitVec.ofInt 64 (B : Int) = BitVec.ofNat 64 B := BitVec.ofInt_natCast _ _
  rw [e1, e2, BitVec.toNat_or, BitVec.toNat_ofNat, BitVec.toNat_ofNat, Nat.mod_eq_of_lt (by omega), Nat.mod_eq_of_lt (by omega)]
  have e3 : A * 256 ||| B = A * 256 + B := by
    have := Nat.two_pow_add_eq_or_of_lt (i := 8) (b := B) (by omega) A
    rw [show A * 256 = 2 ^ 8 * A by omega]; exact this.symm
  rw [e3, w_u64 (by omega) (by omega), bal]
  rfl
theorem c_rBallot (r n : Int) (hr : 0 ≤ r ∧ r < 4294967296) (hn : 0 ≤ n ∧ n < 256) : Gives Try.prog 21 #[.int .u32 r, .int .u8 n] (.int .u64 (bal r n)) := fun w => x_rBallot _ _ w _ <| by
  rw [w_u64 (n := r) (by omega) (by omega), w_u64 (n := r * 256) (by omega) (by omega), w_u64 (n := n) (by omega) (by omega), w_u64 (by omega) (by omega)]
  exact ⟨rfl, below_refl _ w⟩
theorem c_Round (r n : Int) (hr : 0 ≤ r ∧ r < 4294967296) (hn : 0 ≤ n ∧ n < 256) : Gives Try.prog 22 #[.int .u64 (bal r n)] (.int .u32 r) := fun w => x_Round _ w _ <| by
  have : (bal r n).fdiv 256 = r := by
    rw [Int.fdiv_eq_ediv_of_nonneg _ (by omega), bal]; omega
  rw [this, w_u32 (by omega) (by omega)]
  exact ⟨rfl, below_refl _ w⟩
theorem c_proc (n : Int) (hn : 0 ≤ n ∧ n < 256) : Gives Try.prog 47 #[.int .i64 n] (.agg (Pr.row ⟨n, 1⟩).toArray) := fun w => x_proc _ w _ fun w1 h1 => by
  rw [w_u8 (by omega) (by omega)]
  exact ⟨rfl, hid_below h1 (by simp) (Nat.le_refl _)⟩
/-! ### acts -/
structure Av where (kd bn : Int) (p : Pr) (tq : Sl) (tl : List En) (v : Vl) (has : Bool)
@[reducible] def Av.row (a : Av) : List Value := [.int .i64 a.kd, .int .u64 a.bn, .int .u8 a.p.n, .int .u16 a.p.l, slV a.tq a.tl.length, slV a.v.mq a.v.ms.length, slV a.v.tq a.v.ts.length, .bool a.has]
theorem av_len (a : Av) : a.row.length = 8 := rfl
structure AvM (m : Mem) (a : Av) : Prop where
  tl : MSrc m 18 (slV a.tq a.tl.length) a.tl.length (a.tl.flatMap En.row) ∧ ∀ e ∈ a.tl, EnM0 m e
  ms : MSrc m 2 (slV a.v.mq a.v.ms.length) a.v.ms.length (a.v.ms.flatMap Pr.row)
  ts : MSrc m 18 (slV a.v.tq a.v.ts.length) a.v.ts.length (a.v.ts.flatMap En.row) ∧ ∀ e ∈ a.v.ts, EnM0 m e
theorem AvM.mono {m m' : Mem} {a : Av} (h : AvM m a) (hm : m.le m') : AvM m' a := ⟨⟨h.tl.1.mono hm, fun e he => (h.tl.2 e he).mono hm⟩, h.ms.mono hm, ⟨h.ts.1.mono hm, fun e he => (h.ts.2 e he).mono hm⟩⟩
def lts (l : List En) : Prop := l.length ≤ 150 ∧ ∀ e ∈ l, e.ps.length < 200 ∧ e.ws.length ≤ 300
structure Av.lt (a : Av) : Prop where
  m : a.v.ms.length ≤ 20
  tl : lts a.tl
  ts : lts a.v.ts
theorem lts_M {m : Mem} {q : Sl} {l : List En} (h : lts l) (hm : MSrc m 18 (slV q l.length) l.length (l.flatMap En.row) ∧ ∀ e ∈ l, EnM0 m e) : EsM m q l :=
  ⟨hm.1, fun e he => ⟨(hm.2 e he).p, (hm.2 e he).w, by have := (h.2 e he).1; omega, by have := (h.2 e he).2; omega⟩⟩
theorem AvM.vl {m : Mem} {a : Av} (h : AvM m a) (hl : a.lt) : VlM m a.v := ⟨h.ms, lts_M hl.ts h.ts, by have := hl.m; omega, by have := hl.ts.1; omega⟩
theorem c_light (q : Sl) (l : List Av) : Ctr Try.prog 8 #[slV q l.length] (fun m => MSrc m 8 (slV q l.length) l.length (l.flatMap Av.row) ∧ ∀ a ∈ l, AvM m a) [] (fun b : Bool => .bool b) (fun b _ => b = true → l.length ≤ 50 ∧ ∀ a ∈ l, a.lt) (fun _ => []) := by
  refine Ctr.mk fun w F m C hp => x_light _ _ _ w _ ?_
  obtain ⟨hp, he⟩ := hp
  refine ⟨fun i w' _ => ∃ j : Nat, ∃ m' : Mem, i = j ∧ j ≤ 60 ∧ j ≤ l.length ∧ m.le m' ∧ (∀ a ∈ l.take j, a.lt) ∧ Ctx F m w w' [] m' [], fun i _ => (60 - i).toNat, ⟨0, m, rfl, by omega, by omega, Mem.le_refl _, by simp, C⟩, ?_⟩
  clear C
  rintro i w4 L5 _ ⟨j, m', rfl, hj, hjl0, hm', hok, D⟩
  by_cases hg : (decide ((j : Int) < ((l.length : Nat) : Int)) && decide ((j : Int) < 60)) = true
  rotate_left
  · rw [if_neg hg]
    refine Ctr.ret (decide (((l.length : Nat) : Int) ≤ 50)) rfl (fun hb => ?_) D
    simp only [Bool.and_eq_true, decide_eq_true_eq] at hb hg
    refine ⟨by omega, ?_⟩
    rwa [show j = l.length by omega, List.take_length] at hok
  rw [if_pos hg]
  simp only [Bool.and_eq_true, decide_eq_true_eq] at hg
  have hjl : j < l.length := by omega
  obtain ⟨a, ha, hc⟩ := (hp.mono hm').elem av_len hjl
  have ha : q.1 = some a := ha
  have hem := (he _ (List.getElem_mem hjl)).mono hm'
  generalize he0 : l[j] = e at hc hem
  have bad : ∀ {w' m'}, Ctx F m w w' [] m' [] → ∃ i m' L, Ending.returned (.bool false) = Ending.returned (.bool i) ∧ (i = true → l.length ≤ 50 ∧ ∀ a ∈ l, a.lt) ∧ Ctx F m w w' L m' [] := fun D => ⟨false, _, _, rfl, (fun h => by cases h), D⟩
  have hz : (0 : Int) ≤ j := by omega
  have hjl' : (j : Int) < ((l.length : Nat) : Int) := by omega
  refine ⟨hz, hjl', ?_⟩
  rw [ha, onSome_some, Int.toNat_natCast]
  refine ⟨_, _, _, D.cells hc 5 _ rfl, ?_⟩
  by_cases c1 : e.v.ms.length ≤ 20
  rotate_left
  · rw [if_neg (by simp; omega)]; exact bad D
  rw [if_pos (by simp; omega)]
  refine ⟨hz, hjl', ?_⟩
  rw [onSome_some]
  refine ⟨_, _, _, D.cells hc 4 _ rfl, ?_⟩
  by_cases c2 : e.tl.length ≤ 10
  rotate_left
  · rw [if_neg (by simp; omega)]; exact bad D
  rw [if_pos (by simp; omega)]
  refine ⟨hz, hjl', ?_⟩
  rw [onSome_some]
  refine ⟨_, _, _, D.cells hc 6 _ rfl, ?_⟩
  by_cases c3 : e.v.ts.length ≤ 10
  rotate_left
  · rw [if_neg (by simp; omega)]; exact bad D
  rw [if_pos (by simp; omega)]
  refine ⟨hz, hjl', ?_⟩
  rw [onSome_some]
  refine ⟨_, _, _, D.cells hc 4 _ rfl, ?_⟩
  refine (c_Light5 e.tq e.tl).call (As := []) D hem.tl fun b4 m4 w23 hk4 hm4 h4 D => ⟨_, rfl, hk4.size, ?_⟩
  cases b4 with
  | false => rw [if_neg (by decide)]; exact bad D
  | true =>
  rw [if_pos (by decide)]
  refine ⟨hz, hjl', ?_⟩
  rw [onSome_some]
  refine ⟨_, _, _, D.cells (hc.mono hm4) 6 _ rfl, ?_⟩
  refine (c_Light5 e.v.tq e.v.ts).call (As := []) D (hem.mono hm4).ts fun b5 m5 w30 hk5 hm5 h5 D => ⟨_, rfl, hk5.size, ?_⟩
  cases b5 with
  | false => rw [if_pos (by decide)]; exact bad D
  | true =>
  rw [if_neg (by decide), w_i64 (n := (j : Int) + 1) (by omega) (by omega)]
  refine ⟨⟨j + 1, m5, by omega, by omega, by omega, hm'.le_trans (hm4.le_trans hm5), fun x h => ?_, D⟩, Nat.le_of_eq (by show (60 - ((j : Int) + 1)).toNat + 1 = (60 - (j : Int)).toNat; omega)⟩
  rw [List.take_succ_eq_append_getElem hjl, he0] at h
  rcases List.mem_append.1 h with h | h
  · exact hok x h
  · simp only [List.mem_singleton] at h; subst h
    exact ⟨c1, h4 rfl, h5 rfl⟩
end Go.Proofs
