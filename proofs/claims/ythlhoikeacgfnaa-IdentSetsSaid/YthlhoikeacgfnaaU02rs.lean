import Derived.Test.YthlhoikeacgfnaaU02q
set_option linter.unusedVariables false
set_option linter.unusedSimpArgs false
set_option maxRecDepth 10000
namespace Go.Proofs
open Go X RowKit Go.Sort
/-! ### a sorted list of identifiers -/
abbrev Srt (L : List J) : Prop := L.Pairwise fun x y => x.1.num < y.1.num
theorem fK_lt {x d : J} (L : List J) (h : x.1.num < d.1.num) : fK (x :: L) d = fK L d + 1 := by rw [fK, if_pos h]
theorem fK_ge {x d : J} (L : List J) (h : ¬ x.1.num < d.1.num) : fK (x :: L) d = 0 := by rw [fK, if_neg h]
theorem ins_lt {x d : J} (L : List J) (h : x.1.num < d.1.num) : insR (x :: L) d = x :: insR L d := by simp [insR, fK_lt L h]
theorem ins_ge {x d : J} (L : List J) (h : ¬ x.1.num < d.1.num) : insR (x :: L) d = d :: x :: L := by simp [insR, fK_ge L h]
theorem del_lt {x d : J} (L : List J) (h : x.1.num < d.1.num) : delR (x :: L) d = x :: delR L d := by simp [delR, fK_lt L h]
theorem del_ge {x d : J} (L : List J) (h : ¬ x.1.num < d.1.num) : delR (x :: L) d = L := by simp [delR, fK_ge L h]
theorem has_lt {x d : J} (L : List J) (h : x.1.num < d.1.num) : rhas (x :: L) d = rhas L d := by simp [rhas, fK_lt L h]
theorem has_ge {x d : J} (L : List J) (h : ¬ x.1.num < d.1.num) : rhas (x :: L) d = decide (x = d) := by simp [rhas, fK_ge L h]
theorem mem_ins {y d : J} : ∀ (L : List J), y ∈ insR L d ↔ y = d ∨ y ∈ L
  | [] => by simp [insR, fK]
  | x :: L => by
    by_cases h : x.1.num < d.1.num
    · rw [ins_lt L h, List.mem_cons, mem_ins L, List.mem_cons]
      constructor
      · rintro (h | h | h) <;> simp [h]
      · rintro (h | h | h) <;> simp [h]
    · rw [ins_ge L h]; simp
theorem len_ins (L : List J) (d : J) : (insR L d).length = L.length + 1 := by
  have := fK_le L d
  simp [insR]; omega
theorem len_del (L : List J) (d : J) : (delR L d).length ≤ L.length := by
  have := fK_le L d
  simp [delR]; omega
theorem srt_ins {d : J} : ∀ {L : List J}, Srt L → d ∉ L → Srt (insR L d)
  | [], _, _ => by simp [insR, fK, Srt]
  | x :: L, h, hd => by
    have hx := List.pairwise_cons.1 h
    by_cases hl : x.1.num < d.1.num
    · rw [ins_lt L hl]
      refine List.pairwise_cons.2 ⟨fun y hy => ?_, srt_ins hx.2 (fun e => hd (by simp [e]))⟩
      rcases (mem_ins L).1 hy with e | hy
      · rw [e]; exact hl
      · exact hx.1 y hy
    · rw [ins_ge L hl]
      have hdx : d.1.num < x.1.num := by
        have : x.1.num ≠ d.1.num := fun e => hd (by rw [Subtype.ext (num_inj x.2 d.2 e)]; simp)
        omega
      refine List.pairwise_cons.2 ⟨fun y hy => ?_, h⟩
      rcases List.mem_cons.1 hy with e | hy
      · rw [e]; exact hdx
      · have := hx.1 y hy; omega
theorem srt_has {d : J} : ∀ {L : List J}, Srt L → rhas L d = decide (d ∈ L)
  | [], _ => by simp [rhas, fK]
  | x :: L, h => by
    have hx := List.pairwise_cons.1 h
    by_cases hl : x.1.num < d.1.num
    · rw [has_lt L hl, srt_has hx.2]
      have : d ≠ x := fun e => by rw [e] at hl; omega
      simp [this]
    · rw [has_ge L hl]
      by_cases e : x = d
      · simp [e]
      · have hn : d ∉ L := fun hm => by have := hx.1 d hm; omega
        have e' : ¬ d = x := fun h => e h.symm
        simp [e, e', hn]
theorem srt_del {d : J} : ∀ {L : List J}, Srt L → d ∈ L → Srt (delR L d) ∧ ∀ y, y ∈ delR L d ↔ (y ∈ L ∧ y ≠ d)
  | [], _, hd => by cases hd
  | x :: L, h, hd => by
    have hx := List.pairwise_cons.1 h
    by_cases hl : x.1.num < d.1.num
    · have hdx : d ≠ x := fun e => by rw [e] at hl; omega
      have hdL : d ∈ L := by rcases List.mem_cons.1 hd with e | h; exact absurd e hdx; exact h
      obtain ⟨h1, h2⟩ := srt_del hx.2 hdL
      rw [del_lt L hl]
      refine ⟨List.pairwise_cons.2 ⟨fun y hy => hx.1 y ((h2 y).1 hy).1, h1⟩, fun y => ?_⟩
      rw [List.mem_cons, h2 y, List.mem_cons]
      constructor
      · rintro (e | ⟨a, b⟩)
        · exact ⟨.inl e, fun e2 => hdx (by rw [← e2, e])⟩
        · exact ⟨.inr a, b⟩
      · rintro ⟨e | a, b⟩
        · exact .inl e
        · exact .inr ⟨a, b⟩
    · have hdx : d = x := by
        rcases List.mem_cons.1 hd with e | h
        · exact e
        · have := hx.1 d h; omega
      rw [del_ge L hl]
      refine ⟨hx.2, fun y => ?_⟩
      rw [List.mem_cons]
      constructor
      · intro hy
        exact ⟨.inr hy, fun e => by have := hx.1 y hy; rw [e, hdx] at this; omega⟩
      · rintro ⟨e | a, b⟩
        · exact absurd (e.trans hdx.symm) b
        · exact a
theorem srt_nodup {L : List J} (h : Srt L) : L.Nodup := h.imp fun {a b} hab e => by rw [e] at hab; omega
theorem srt_sorted {L : List J} (h : Srt L) : L.Pairwise fun x y => 0 ≤ cmpJ y x := h.imp fun {a b} hab => by
  rw [cmpJ_num]; unfold cmp2; rw [if_neg (by omega)]; split <;> omega
/-! ### the two sets agree -/
structure Rel (s : Se) (r : Rt) : Prop where
  most : s.most = if (0 : Int) > r.most then 0 else r.most
  nd : (s.l.map Prod.fst).Nodup
  srt : Srt r.L
  mem : ∀ d, d ∈ s.l.map Prod.fst ↔ d ∈ r.L
theorem Rel.perm {s : Se} {r : Rt} (h : Rel s r) : s.keys.Perm r.L := nodup_perm h.nd (srt_nodup h.srt) h.mem
theorem Rel.len {s : Se} {r : Rt} (h : Rel s r) : s.l.length = r.L.length := by have := h.perm.length_eq; simpa [Se.keys] using this
theorem Rel.all {s : Se} {r : Rt} (h : Rel s r) : s.all = r.L := sorted_one totJ ((sortBy_perm cmpJ _).trans h.perm) (sortBy_sorted cmpJ swoJ _) (srt_sorted h.srt)
theorem Rel.under {s : Se} {r : Rt} (h : Rel s r) (p : Int × Int) : s.under p = r.L.filter (isOf p) := by rw [Se.under, h.all]; rfl
theorem has_mem (l : List (J × Unit)) (d : J) : (fnd d l).isSome = decide (d ∈ l.map Prod.fst) := by
  cases hf : fnd d l with
  | none =>
    have := fnd_none.1 hf
    simp only [Option.isSome_none]
    rw [decide_eq_false this]
  | some u =>
    have : d ∈ l.map Prod.fst := List.mem_map.2 ⟨_, fnd_mem hf, rfl⟩
    simp only [Option.isSome_some]
    rw [decide_eq_true this]
theorem Rel.has {s : Se} {r : Rt} (h : Rel s r) (d : J) : s.has d = rhas r.L d := by
  rw [Se.has, has_mem, srt_has h.srt]
  congr 1
  exact propext (h.mem d)
theorem Rel.add {s : Se} {r : Rt} (h : Rel s r) (d : J) : (s.add d).1 = (addR r d).1 ∧ Rel (s.add d).2 (addR r d).2 ∧ (addR r d).2.L.length ≤ r.L.length + 1 := by
  unfold Se.add addR
  rw [h.has d, h.len]
  cases hr : d.1.right with
  | false => exact ⟨rfl, h, Nat.le_succ _⟩
  | true =>
    cases hh : rhas r.L d with
    | true => exact ⟨rfl, h, Nat.le_succ _⟩
    | false =>
      have hm : (if (0 : Int) > r.most then 0 else r.most) = (if r.most > 0 then r.most else 0) := by split <;> split <;> omega
      have hmost := h.most
      rw [hm] at hmost
      rw [hmost]
      by_cases hl : (r.L.length : Int) ≥ (if r.most > 0 then r.most else 0)
      · simp only [hl, if_true]
        exact ⟨rfl, h, Nat.le_succ _⟩
      · simp only [hl, if_false, if_true]
        have hn : d ∉ r.L := by
          rw [srt_has h.srt, decide_eq_false_iff_not] at hh; exact hh
        have hn2 : d ∉ s.l.map Prod.fst := fun e => hn ((h.mem d).1 e)
        refine ⟨by simp, ⟨by show (if r.most > 0 then r.most else 0) = (if (0 : Int) > r.most then 0 else r.most); rw [hm], ?_, srt_ins h.srt hn, fun y => ?_⟩, by simp [len_ins]⟩
        · exact mput_nodup h.nd
        · show y ∈ (X.mput d () s.l).map Prod.fst ↔ y ∈ insR r.L d
          rw [mput_out hn2, mem_ins, List.map_append, List.mem_append, h.mem]
          simp only [List.map_cons, List.map_nil, List.mem_singleton]
          constructor
          · rintro (a | a) <;> simp [a]
          · rintro (a | a) <;> simp [a]
theorem Rel.remove {s : Se} {r : Rt} (h : Rel s r) (d : J) : (s.remove d).1 = (removeR r d).1 ∧ Rel (s.remove d).2 (removeR r d).2 ∧ (removeR r d).2.L.length ≤ r.L.length + 1 := by
  unfold Se.remove removeR
  rw [h.has d]
  cases hh : rhas r.L d with
  | false => exact ⟨rfl, h, Nat.le_succ _⟩
  | true =>
    have hd : d ∈ r.L := by rw [srt_has h.srt, decide_eq_true_eq] at hh; exact hh
    obtain ⟨h1, h2⟩ := srt_del h.srt hd
    refine ⟨rfl, ⟨h.most, mdel_nodup h.nd, h1, fun y => ?_⟩, Nat.le_trans (len_del _ _) (Nat.le_succ _)⟩
    show y ∈ (X.mdel d s.l).map Prod.fst ↔ y ∈ delR r.L d
    rw [h2 y, ← h.mem y]
    have e1 := has_mem (X.mdel d s.l) y
    have e2 := has_mem s.l y
    rw [fnd_mdel h.nd] at e1
    by_cases hy : y = d
    · rw [if_pos hy] at e1
      have e1' : decide (y ∈ (X.mdel d s.l).map Prod.fst) = false := e1.symm
      rw [decide_eq_false_iff_not] at e1'
      exact ⟨fun a => absurd a e1', fun a => absurd hy a.2⟩
    · rw [if_neg hy] at e1
      have e3 : decide (y ∈ (X.mdel d s.l).map Prod.fst) = decide (y ∈ s.l.map Prod.fst) := e1.symm.trans e2
      have e4 : (y ∈ (X.mdel d s.l).map Prod.fst) ↔ (y ∈ s.l.map Prod.fst) := by
        constructor
        · intro a; rw [decide_eq_true a] at e3; exact of_decide_eq_true e3.symm
        · intro a; rw [decide_eq_true a] at e3; exact of_decide_eq_true e3
      exact ⟨fun a => ⟨e4.1 a, hy⟩, fun a => e4.2 a.1⟩
theorem rel0 (a : Int) : Rel ⟨if (0 : Int) > a then 0 else a, []⟩ ⟨a, []⟩ := ⟨rfl, by simp, by simp [Srt], fun d => by simp⟩
end Go.Proofs
namespace Go.Proofs
open Go X RowKit Go.Sort
structure Ac where (kd : Int) (d : J)
@[reducible] def Ac.row (a : Ac) : List Value := .int .i64 a.kd :: jR a.d
theorem ac_len (a : Ac) : a.row.length = 11 := rfl
theorem c_All' (b : Nat) (s : Se) (hs : s.l.length ≤ 1000000) : Ctr Try.prog 32 #[.pointer (some ⟨b, 0, none⟩)] noMem [seA b s] (fun v : Sl => slV v s.all.length) (fun _ _ => True) (fun v => [jsA 35 v s.all, seA b s]) := by
  have h := c_All b s hs
  unfold jsA slV
  rw [all_len]
  exact h
theorem c_Under' (b : Nat) (s : Se) (hs : s.l.length ≤ 1000000) (p : Int × Int) : Ctr Try.prog 33 #[.pointer (some ⟨b, 0, none⟩), PV p.1 p.2] noMem [seA b s] (fun v : Sl => slV v (s.under p).length) (fun _ _ => True) (fun v => [jsA 35 v (s.under p), seA b s]) := c_Under b s hs p
theorem l_IdentSets (w : World) (a : Int) (q : Option Addr) (c : Nat) (l : List Ac) (hs : MSrc (memOf w) 11 (.slice q l.length c) l.length (l.flatMap Ac.row)) :
    Calls Try.prog 7 #[.int .i64 a, .slice q l.length c] w (LawR w) := by
  refine x_gemotlaw02_IdentSets _ _ _ _ w _ ?_
  have C := lawStart w
  by_cases h100 : l.length > 100
  · rw [if_neg (by simp; omega)]
    exact C.gives c_knows fun w2 k2 C => ⟨_, rfl, k2.size, rfl, C.at_⟩
  rw [if_pos (by simp; omega)]
  refine C.gives c_knows fun w5 k5 C => ⟨_, rfl, k5.size, ?_⟩
  rw [if_neg (by decide)]
  refine (c_NewSet a).call (As := []) C trivial fun b m1 w8 hk hm _ C => ⟨_, rfl, hk.size, ?_⟩
  replace hs := hs.mono hm
  clear hm hk k5
  generalize hbr : w8.heap.size = br
  have C1 : Ctx [] (memOf w) w (w8.alloc (.cells #[.slice none 0 0, .int .i64 a] 75)) [] m1 (rtAs br ⟨a, []⟩ (none, 0) ++ [seA b ⟨if (0 : Int) > a then 0 else a, []⟩]) := by
    have := Ctx.slNil (q := none) (ty := 30) (sz := 10) (C.alloc [.slice none 0 0, .int .i64 a] 75)
    rw [hbr] at this
    exact this.swap
  refine ⟨fun n w' L' => ∃ (i : Nat) (s : Se) (r : Rt) (m : Mem), n = i ∧ i ≤ l.length ∧ Rel s r ∧ r.L.length ≤ i ∧ m1.le m ∧ Ctx [] (memOf w) w w' [] m [seA b s, rtA br r], fun n _ => (l.length - n).toNat,
    ⟨0, _, _, m1, rfl, by omega, rel0 a, by simp, Mem.le_refl _, (rtI _ C1).swap⟩, ?_⟩
  clear C C1 hbr
  rintro n w13 L14 _ ⟨i, s, r, m, rfl, hi, hrel, hri, hmm, C⟩
  by_cases hlt : i < l.length
  rotate_left
  · rw [if_neg (by simpa using hlt)]
    exact ⟨rfl, C.at_⟩
  rw [if_pos (by simpa using hlt)]
  refine ⟨by omega, by simpa using hlt, ?_⟩
  obtain ⟨pa, rfl, hcell⟩ := (hs.mono hmm).elem ac_len hlt
  rw [onSome_some]
  have hc := C.cells hcell
  have hcd : Cells w13 ((pa.add (i * 11)).add 1) (jR l[i].d) := cells_part hc 1 _ fun j v hj => by rw [Nat.add_comm]; exact hj
  have hck : w13.cell? ((pa.add (i * 11)).add 0) = some (.int .i64 l[i].kd) := hc 0 _ rfl
  refine ⟨_, _, _, _, _, _, _, _, _, _, hcd, by omega, by simpa using hlt, ?_⟩
  rw [onSome_some]
  refine ⟨_, hck, ?_⟩
  clear hc hcd hck hcell
  have hll : r.L.length ≤ 100000 := by omega
  have hsl : s.l.length ≤ 1000000 := by rw [hrel.len]; omega
  let J0 : Bool → World → List Nat → Prop := fun bo w' L' => ∃ (s : Se) (r : Rt) (m : Mem), bo = true ∧ Rel s r ∧ r.L.length ≤ i + 1 ∧ m1.le m ∧ Ctx [] (memOf w) w w' L' m [seA b s, rtA br r]
  -- an addition
  have arm_add : ∃ x : Facts, FactsW x w13 [] ∧ ∀ w192 : World, ∀ L193 : List Nat, X.Hid [] w13 w192 → X.NewL w.heap.size [] w13 w192 L193 → X.CallX Try.prog 9 #[jV l[i].d] w192 fun e194 w195 =>
      ∃ n196 : Int, ∃ n197 : Int, ∃ n198 : Int, ∃ n199 : Int, ∃ n200 : Int, ∃ n201 : Int, ∃ n202 : Int, ∃ n203 : Int, ∃ n204 : Int, ∃ n205 : Int, (e194 = .returned (.agg #[(.int .u8 n196), (.int .u16 n197), (.int .u32 n198), (.int .u8 n199), (.int .u8 n200), (.int .u8 n201), (.int .u8 n202), (.int .u8 n203), (.int .u8 n204), (.int .u8 n205)])) ∧
      X.Kept L193 w192 w195 ∧ X.FactsW x w195 L193 ∧ X.CallX Try.prog 28 #[.pointer (some ⟨b, 0, none⟩), (.agg #[(.int .u8 n196), (.int .u16 n197), (.int .u32 n198), (.int .u8 n199), (.int .u8 n200), (.int .u8 n201), (.int .u8 n202), (.int .u8 n203), (.int .u8 n204), (.int .u8 n205)])] w195 fun e206 w207 =>
        ∃ n208 : Int, (e206 = .returned (.int .i64 n208)) ∧ X.Kept L193 w195 w207 ∧ X.FactsW x w207 L193 ∧ X.CallX Try.prog 14 #[.int .i64 n208] w207 fun e209 w210 =>
          ∃ n211 : Int, (e209 = .returned (.int .i64 n211)) ∧ X.Kept L193 w207 w210 ∧ X.FactsW x w210 L193 ∧ X.CallX Try.prog 35 #[.pointer (some ⟨br, 0, none⟩), jV l[i].d] w210 fun e212 w213 =>
            ∃ n214 : Int, (e212 = .returned (.int .i64 n214)) ∧ X.Kept L193 w210 w213 ∧ X.FactsW x w213 L193 ∧ ((jR l[i].d) = (jR l[i].d)) ∧ J0 (n211 == n214) w213 L193 := by
    refine ⟨[], facts_nil _ _, fun w192 L193 h192 g192 => ?_⟩
    refine (C.hidL h192 g192).gives (c_ID l[i].d.1) fun w195 k195 C => ⟨_, _, _, _, _, _, _, _, _, _, rfl, k195, facts_nil _ _, ?_⟩
    refine (c_Add b s l[i].d).call (As := [rtA br r]) C trivial fun _ m2 w207 hk hm2 _ C => ⟨_, rfl, hk, facts_nil _ _, ?_⟩
    refine C.gives (c_num _) fun w210 k210 C => ⟨_, rfl, k210, facts_nil _ _, ?_⟩
    refine (c_rAdd br r l[i].d hll).call (As := [seA b (s.add l[i].d).2]) (Ctx.swap C) trivial fun _ m3 w213 hk hm3 _ C => ⟨_, rfl, hk, facts_nil _ _, rfl, ?_⟩
    obtain ⟨h1, h2, h3⟩ := hrel.add l[i].d
    exact ⟨_, _, m3, by rw [h1]; simp, h2, by omega, (hmm.le_trans hm2).le_trans hm3, Ctx.swap C⟩
  have arm_rem : ∃ x : Facts, FactsW x w13 [] ∧ ∀ w192 : World, ∀ L193 : List Nat, X.Hid [] w13 w192 → X.NewL w.heap.size [] w13 w192 L193 → X.CallX Try.prog 9 #[jV l[i].d] w192 fun e194 w195 =>
      ∃ n196 : Int, ∃ n197 : Int, ∃ n198 : Int, ∃ n199 : Int, ∃ n200 : Int, ∃ n201 : Int, ∃ n202 : Int, ∃ n203 : Int, ∃ n204 : Int, ∃ n205 : Int, (e194 = .returned (.agg #[(.int .u8 n196), (.int .u16 n197), (.int .u32 n198), (.int .u8 n199), (.int .u8 n200), (.int .u8 n201), (.int .u8 n202), (.int .u8 n203), (.int .u8 n204), (.int .u8 n205)])) ∧
      X.Kept L193 w192 w195 ∧ X.FactsW x w195 L193 ∧ X.CallX Try.prog 29 #[.pointer (some ⟨b, 0, none⟩), (.agg #[(.int .u8 n196), (.int .u16 n197), (.int .u32 n198), (.int .u8 n199), (.int .u8 n200), (.int .u8 n201), (.int .u8 n202), (.int .u8 n203), (.int .u8 n204), (.int .u8 n205)])] w195 fun e206 w207 =>
        ∃ b208 : Bool, (e206 = .returned (.bool b208)) ∧ X.Kept L193 w195 w207 ∧ X.FactsW x w207 L193 ∧ X.CallX Try.prog 36 #[.pointer (some ⟨br, 0, none⟩), jV l[i].d] w207 fun e212 w213 =>
            ∃ b214 : Bool, (e212 = .returned (.bool b214)) ∧ X.Kept L193 w207 w213 ∧ X.FactsW x w213 L193 ∧ ((jR l[i].d) = (jR l[i].d)) ∧ J0 (b208 == b214) w213 L193 := by
    refine ⟨[], facts_nil _ _, fun w192 L193 h192 g192 => ?_⟩
    refine (C.hidL h192 g192).gives (c_ID l[i].d.1) fun w195 k195 C => ⟨_, _, _, _, _, _, _, _, _, _, rfl, k195, facts_nil _ _, ?_⟩
    refine (c_Remove b s l[i].d).call (As := [rtA br r]) C trivial fun _ m2 w207 hk hm2 _ C => ⟨_, rfl, hk, facts_nil _ _, ?_⟩
    refine (c_rRemove br r l[i].d hll).call (As := [seA b (s.remove l[i].d).2]) (Ctx.swap C) trivial fun _ m3 w213 hk hm3 _ C => ⟨_, rfl, hk, facts_nil _ _, rfl, ?_⟩
    obtain ⟨h1, h2, h3⟩ := hrel.remove l[i].d
    exact ⟨_, _, m3, by rw [h1]; simp, h2, by omega, (hmm.le_trans hm2).le_trans hm3, Ctx.swap C⟩
  have arm_has : ∀ w149 : World, ∀ L150 : List Nat, X.Hid [] w13 w149 → X.NewL w.heap.size [] w13 w149 L150 → X.CallX Try.prog 37 #[.pointer (some ⟨br, 0, none⟩), jV l[i].d] w149 fun e151 w152 =>
      ∃ n153 : Int, ∃ b154 : Bool, (e151 = .returned (.tuple #[(.int .i64 n153), (.bool b154)])) ∧ X.Kept L150 w149 w152 ∧ X.CallX Try.prog 9 #[jV l[i].d] w152 fun e155 w156 =>
        ∃ n157 : Int, ∃ n158 : Int, ∃ n159 : Int, ∃ n160 : Int, ∃ n161 : Int, ∃ n162 : Int, ∃ n163 : Int, ∃ n164 : Int, ∃ n165 : Int, ∃ n166 : Int, (e155 = .returned (.agg #[(.int .u8 n157), (.int .u16 n158), (.int .u32 n159), (.int .u8 n160), (.int .u8 n161), (.int .u8 n162), (.int .u8 n163), (.int .u8 n164), (.int .u8 n165), (.int .u8 n166)])) ∧
        X.Kept L150 w152 w156 ∧ X.CallX Try.prog 30 #[.pointer (some ⟨b, 0, none⟩), (.agg #[(.int .u8 n157), (.int .u16 n158), (.int .u32 n159), (.int .u8 n160), (.int .u8 n161), (.int .u8 n162), (.int .u8 n163), (.int .u8 n164), (.int .u8 n165), (.int .u8 n166)])] w156 fun e167 w168 =>
          ∃ b169 : Bool, (e167 = .returned (.bool b169)) ∧ X.Kept L150 w156 w168 ∧ ((jR l[i].d) = (jR l[i].d)) ∧ J0 (b169 == b154) w168 L150 := by
    intro w149 L150 h149 g149
    refine (c_rfind br r l[i].d hll).call (As := [seA b s]) (Ctx.swap (C.hidL h149 g149)) trivial fun _ m2 w152 hk hm2 _ C => ⟨_, _, rfl, hk, ?_⟩
    refine C.gives (c_ID l[i].d.1) fun w156 k156 C => ⟨_, _, _, _, _, _, _, _, _, _, rfl, k156, ?_⟩
    refine (c_Has b s l[i].d).call (As := [rtA br r]) (Ctx.swap C) trivial fun _ m3 w168 hk hm3 _ C => ⟨_, rfl, hk, rfl, ?_⟩
    exact ⟨_, _, m3, by rw [hrel.has]; simp, hrel, by omega, (hmm.le_trans hm2).le_trans hm3, C⟩
  have arm_under : ∃ x : Facts, FactsW x w13 [] ∧ ∀ w125 : World, ∀ L126 : List Nat, X.Hid [] w13 w125 → X.NewL w.heap.size [] w13 w125 L126 → X.CallX Try.prog 19 #[PV l[i].d.1.n l[i].d.1.l] w125 fun e127 w128 =>
      ∃ n129 : Int, ∃ n130 : Int, (e127 = .returned (.agg #[(.int .u8 n129), (.int .u16 n130)])) ∧ X.Kept L126 w125 w128 ∧ X.FactsW x w128 L126 ∧ X.CallX Try.prog 33 #[.pointer (some ⟨b, 0, none⟩), (.agg #[(.int .u8 n129), (.int .u16 n130)])] w128 fun e131 w132 =>
        ∃ q133 : Option Addr, ∃ k134 : Nat, ∃ k135 : Nat, (e131 = .returned (.slice q133 k134 k135)) ∧ X.Kept L126 w128 w132 ∧ X.FactsW x w132 L126 ∧ X.CallX Try.prog 39 #[.slice q133 k134 k135] w132 fun e136 w137 =>
          ∃ q138 : Option Addr, ∃ k139 : Nat, ∃ k140 : Nat, (e136 = .returned (.slice q138 k139 k140)) ∧ X.Kept L126 w132 w137 ∧ X.FactsW x w137 L126 ∧ X.CallX Try.prog 40 #[.pointer (some ⟨br, 0, none⟩), PV l[i].d.1.n l[i].d.1.l] w137 fun e141 w142 =>
            ∃ q143 : Option Addr, ∃ k144 : Nat, ∃ k145 : Nat, (e141 = .returned (.slice q143 k144 k145)) ∧ X.Kept L126 w137 w142 ∧ X.FactsW x w142 L126 ∧ X.CallX Try.prog 38 #[.slice q138 k139 k140, .slice q143 k144 k145] w142 fun e146 w147 =>
              ∃ b148 : Bool, (e146 = .returned (.bool b148)) ∧ X.Kept L126 w142 w147 ∧ X.FactsW x w147 L126 ∧ ((jR l[i].d) = (jR l[i].d)) ∧ J0 b148 w147 L126 := by
    refine ⟨[], facts_nil _ _, fun w125 L126 h125 g125 => ?_⟩
    have hul : (s.under (l[i].d.1.n, l[i].d.1.l)).length ≤ 100000 := by
      rw [hrel.under]; exact Nat.le_trans (List.length_filter_le _ _) hll
    refine (C.hidL h125 g125).gives (c_Proc l[i].d.1.n l[i].d.1.l) fun w128 k128 C => ⟨_, _, rfl, k128, facts_nil _ _, ?_⟩
    refine (c_Under' b s hsl (l[i].d.1.n, l[i].d.1.l)).call (As := [rtA br r]) C trivial fun v1 m2 w132 hk hm2 _ C => ⟨_, _, _, rfl, hk, facts_nil _ _, ?_⟩
    refine (c_RefIDs v1 _ hul).call (As := [seA b s, rtA br r]) C trivial fun v2 m3 w137 hk hm3 _ C => ⟨_, _, _, rfl, hk, facts_nil _ _, ?_⟩
    refine (c_rUnder br r (l[i].d.1.n, l[i].d.1.l) hll).call (As := [jsA 30 v2 (s.under (l[i].d.1.n, l[i].d.1.l)), jsA 35 v1 (s.under (l[i].d.1.n, l[i].d.1.l)), seA b s]) (C.pm [3, 0, 1, 2] rfl) trivial fun v3 m4 w142 hk hm4 _ C => ⟨_, _, _, rfl, hk, facts_nil _ _, ?_⟩
    refine (c_Same v2 v3 _ _ hul).call (As := [rtA br r, jsA 35 v1 (s.under (l[i].d.1.n, l[i].d.1.l)), seA b s]) (C.pm [2, 0, 1, 3, 4] rfl) trivial fun _ m5 w147 hk hm5 _ C => ⟨_, rfl, hk, facts_nil _ _, rfl, ?_⟩
    exact ⟨s, r, m5, by rw [hrel.under]; simp, hrel, by omega, (((hmm.le_trans hm2).le_trans hm3).le_trans hm4).le_trans hm5, C.pk [4, 2] [0, 1, 3] rfl⟩
  have arm_none : ∀ w29 : World, ∀ L30 : List Nat, X.Hid [] w13 w29 → X.NewL w.heap.size [] w13 w29 L30 → ((jR l[i].d) = (jR l[i].d)) ∧ J0 true w29 L30 := fun w29 L30 h29 g29 => ⟨rfl, s, r, m, rfl, hrel, by omega, hmm, C.hidL h29 g29⟩
  refine ⟨J0, ?_, ?_⟩
  · by_cases k0 : l[i].kd = 0
    · rw [if_pos (by simp [k0]), if_pos (by simp [k0])]
      exact arm_add
    rw [if_neg (by simp [k0])]
    by_cases k1 : l[i].kd = 1
    · rw [if_pos (by simp [k1])]
      exact arm_add
    rw [if_neg (by simp [k1])]
    by_cases k2 : l[i].kd = 2
    · rw [if_pos (by simp [k2])]
      exact arm_rem
    rw [if_neg (by simp [k2])]
    by_cases k3 : l[i].kd = 3
    · rw [if_pos (by simp [k3])]
      exact arm_has
    rw [if_neg (by simp [k3])]
    by_cases k4 : l[i].kd = 4
    · rw [if_pos (by simp [k4])]
      exact arm_under
    rw [if_neg (by simp [k4])]
    exact arm_none
  clear arm_add arm_rem arm_has arm_under arm_none hrel hri hmm C hll hsl
  rintro bo w216 L217 _ ⟨s, r, m, rfl, hrel, hri, hmm, C⟩
  have hll : r.L.length ≤ 100000 := by omega
  have hsl : s.l.length ≤ 1000000 := by rw [hrel.len]; omega
  obtain ⟨p, C⟩ := rtO C.swap
  have hf : ∀ {w' L' m' As}, Ctx [] (memOf w) w w' L' m' (rtB br r p :: As) → FactsW [(⟨br, 0, none⟩, [slV p r.L.length])] w' L' := fun C => C.blkFact1 0 _ rfl (facts_nil _ _)
  refine ⟨_, hf C, ?_⟩
  rw [if_pos (by decide)]
  refine ⟨p.1, r.L.length, p.2, by simp, fun w230 L231 h230 g230 => ?_⟩
  refine (c_Len b s).call (As := rtAs br r p) ((C.hidL h230 g230).pm [2, 0, 1] rfl) trivial fun _ m2 w233 hk hm2 _ C => ⟨_, rfl, hk, hf (C.pm [1, 2, 0] rfl), _, hf (C.pm [1, 2, 0] rfl), fun _ h => h, ?_⟩
  rw [if_pos (by rw [hrel.len]; simp)]
  refine ⟨p.1, r.L.length, p.2, by simp, ?_⟩
  refine (c_All' b s hsl).call (As := rtAs br r p) C trivial fun v m3 w241 hk hm3 _ C => ⟨_, _, _, rfl, hk, hf (C.pm [2, 3, 0, 1] rfl), ?_⟩
  have hal : s.all.length ≤ 100000 := by rw [hrel.all]; exact hll
  refine (c_RefIDs v s.all hal).call (As := [seA b s] ++ rtAs br r p) C trivial fun v2 m4 w246 hk hm4 _ C => ⟨_, _, _, rfl, hk, hf (C.pm [3, 4, 0, 1, 2] rfl), ?_⟩
  refine (c_Same v2 p s.all r.L hal).call (As := [jsA 35 v s.all, seA b s, rtB br r p]) (C.pm [0, 4, 1, 2, 3] rfl) trivial fun _ m5 w251 hk hm5 _ C => ⟨_, rfl, hk, hf (C.pm [4, 0, 1, 2, 3] rfl), ?_⟩
  rw [if_neg (by rw [hrel.all]; simp)]
  have e : IntKind.wrap .i64 ((i : Int) + 1) = ((i + 1 : Nat) : Int) := w1 i (by omega)
  rw [e]
  refine ⟨⟨i + 1, s, r, m5, rfl, hlt, hrel, hri, (((hmm.le_trans hm2).le_trans hm3).le_trans hm4).le_trans hm5, ?_⟩, Nat.le_of_eq (by show ((l.length : Int) - ((i + 1 : Nat) : Int)).toNat + 1 = ((l.length : Int) - (i : Int)).toNat; omega)⟩
  have C2 : Ctx [] (memOf w) w w251 L231 m5 (rtAs br r p ++ [seA b s]) := C.pk [4, 1, 3] [0, 2] rfl
  exact Ctx.noL (Ctx.swap (rtI p C2))
end Go.Proofs
