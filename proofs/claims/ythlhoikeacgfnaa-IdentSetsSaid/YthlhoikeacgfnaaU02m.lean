import Derived.Test.YthlhoikeacgfnaaU02i
import Derived.Test.YthlhoikeacgfnaaV02e
import Derived.Test.YthlhoikeacgfnaaW02s
import Derived.Test.YthlhoikeacgfnaaXWalk
import Derived.Test.YthlhoikeacgfnaaXClear
set_option linter.unusedVariables false
set_option linter.unusedSimpArgs false
set_option maxRecDepth 10000
namespace Go.Proofs
open Go X RowKit Go.Sort
abbrev noMem : Mem → Prop := fun _ => True
/-! ### identifiers with their bounds -/
instance : DecidableEq I := fun a b => decidable_of_iff (a.n = b.n ∧ a.l = b.l ∧ a.s = b.s ∧ a.d = b.d ∧ a.g0 = b.g0 ∧ a.i0 = b.i0 ∧ a.g1 = b.g1 ∧ a.i1 = b.i1 ∧ a.g2 = b.g2 ∧ a.i2 = b.i2) (by cases a; cases b; simp)
abbrev J : Type := { x : I // x.In }
theorem zero_in : I.zero.In := by constructor <;> decide
instance : Inhabited J := ⟨⟨I.zero, zero_in⟩⟩
abbrev jV (j : J) : Value := j.1.V
abbrev jR (j : J) : List Value := j.1.row
theorem key35 : KeyT Try.prog 35 jV := by
  refine keyAgg Try.underlying35 (fun x => ⟨_, rfl⟩) (fun x => by kernel_rfl) (fun x y => ⟨((x.1.n == y.1.n) && (x.1.l == y.1.l)) && ((x.1.s == y.1.s) && ((x.1.d == y.1.d) && (((x.1.g0 == y.1.g0) && (x.1.i0 == y.1.i0)) && (((x.1.g1 == y.1.g1) && (x.1.i1 == y.1.i1)) && ((x.1.g2 == y.1.g2) && (x.1.i2 == y.1.i2)))))), by kernel_rfl, ?_⟩) (fun x => by simp [Instr.sameBits])
  simp only [Bool.and_eq_true, beq_iff_eq]
  constructor
  · rintro ⟨⟨h1, h2⟩, h3, h4, ⟨h5, h6⟩, ⟨h7, h8⟩, h9, h10⟩
    exact Subtype.ext (I.ext' ⟨h1, h2, h3, h4, h5, h6, h7, h8, h9, h10⟩)
  · rintro rfl; exact ⟨⟨rfl, rfl⟩, rfl, rfl, ⟨rfl, rfl⟩, ⟨rfl, rfl⟩, rfl, rfl⟩
theorem jR_len (j : J) : (jR j).length = 10 := rfl
theorem jR_one (j : J) : ∀ u ∈ jR j, oneC u = true := by
  intro u hu
  simp only [jR, I.row, List.mem_cons, List.not_mem_nil, or_false] at hu
  rcases hu with rfl | rfl | rfl | rfl | rfl | rfl | rfl | rfl | rfl | rfl <;> rfl
/-! ### their order -/
def cmpJ (x y : J) : Int := x.1.cmp y.1
theorem cmpJ_num (x y : J) : cmpJ x y = cmp2 x.1.num y.1.num := cmp_num x.1 y.1 x.2 y.2
theorem lt_num (x y : J) : ltOf cmpJ x y = decide (x.1.num < y.1.num) := by
  simp only [ltOf, cmpJ_num, cmp2]
  congr 1
  by_cases h : x.1.num < y.1.num
  · simp [h]
  · simp only [h, if_false, iff_false, eq_iff_iff]; split <;> omega
theorem swoJ : SWO (ltOf cmpJ) where
  irrefl x := by rw [lt_num]; simp
  trans x y z h1 h2 := by rw [lt_num] at *; simp only [decide_eq_true_eq] at *; omega
  ntrans x y z h1 h2 := by rw [lt_num] at *; simp only [decide_eq_false_iff_not] at *; omega
theorem totJ (x y : J) (h1 : ltOf cmpJ x y = false) (h2 : ltOf cmpJ y x = false) : x = y := by
  rw [lt_num] at h1 h2
  simp only [decide_eq_false_iff_not] at h1 h2
  exact Subtype.ext (num_inj x.2 y.2 (by omega))
theorem enters23 : ∀ args w, (callFunc 23 args).run Try.prog w = .ok (.enter 23 args) w := enters_of Try.func23 (by kernel_rfl) rfl
/-- the list of identifiers, sorted -/
theorem c_Sort (l : List J) (v : Value) : Ctr Try.prog 51 #[v, .func (.func 23) #[] #[]] (fun _ => l.length < 4611686018427387904) [slA v l.length (l.flatMap jR) 35 10] (fun _ : Unit => .tuple #[]) (fun _ _ => True) (fun _ => [slA v l.length ((sortBy cmpJ l).flatMap jR) 35 10]) :=
  sortFunc_ctr (k := 10) (enc := jR) (cf := cmpJ) (g := 23) (cb := #[]) (Cs := []) Try.sortI Try.isAgg35 Try.sizeOf35 jR_len jR_one swoJ totJ enters23 (fun w1 F _ _ x y => c_Compare x.1 y.1 x.2 y.2 w1) l v 35
/-! ### the set -/
abbrev uV (_ : Unit) : Value := .agg #[]
structure Se where (most : Int) (l : List (J × Unit))
abbrev seB (b : Nat) (most : Int) (mb : Nat) : Asn := blk b [.map (some mb), .int .i64 most] 69
abbrev seM (mb : Nat) (l : List (J × Unit)) : Asn := mapA mb jV uV l
def seA (b : Nat) (s : Se) : Asn := Asn.ex fun mb : Nat => Asn.all [seB b s.most mb, seM mb s.l]
section
variable {F0 : List Nat} {m0 : Mem} {w0 w : World} {L : List Nat} {m : Mem} {As : List Asn}
theorem seO {b : Nat} {s : Se} (C : Ctx F0 m0 w0 w L m (seA b s :: As)) : ∃ mb, Ctx F0 m0 w0 w L m ([seB b s.most mb, seM mb s.l] ++ As) := by
  obtain ⟨mb, C⟩ := C.ex
  exact ⟨mb, C.all⟩
theorem seI {b : Nat} {s : Se} (mb : Nat) (C : Ctx F0 m0 w0 w L m ([seB b s.most mb, seM mb s.l] ++ As)) : Ctx F0 m0 w0 w L m (seA b s :: As) := Ctx.exI mb (Ctx.allI C)
end
def Se.has (s : Se) (d : J) : Bool := (fnd d s.l).isSome
def Se.add (s : Se) (d : J) : Int × Se := if d.1.right then (if s.has d then (4, s) else if (s.l.length : Int) ≥ s.most then (11, s) else (0, { s with l := X.mput d () s.l })) else (1, s)
def Se.remove (s : Se) (d : J) : Bool × Se := if s.has d then (true, { s with l := X.mdel d s.l }) else (false, s)
def Se.keys (s : Se) : List J := s.l.map Prod.fst
def Se.all (s : Se) : List J := sortBy cmpJ s.keys
theorem t67 : Try.prog.underlying 67 = some (.map 35 95) := by kernel_rfl
theorem z95 : ((Try.prog.info? 95).bind (·.zero)) = some (.agg #[]) := by kernel_rfl
section
variable {F0 : List Nat} {m0 : Mem} {w0 w : World} {L : List Nat} {m : Mem} {As : List Asn}
theorem look_se {mb : Nat} {l : List (J × Unit)} (C : Ctx F0 m0 w0 w L m (seM mb l :: As)) (d : J) : (Instr.lookup 67 (.map (some mb)) (jV d) true).run Try.prog w = .ok (.tuple #[.agg #[], .bool (fnd d l).isSome]) w := by
  obtain ⟨i, hi, hz⟩ := Option.bind_eq_some_iff.1 z95
  have := Ctx.mlook (P := Try.prog) t67 key35 hi hz C d true
  rw [this]
  cases fnd d l <;> rfl
end
theorem c_none (b : Nat) (s : Se) : Ctr Try.prog 50 #[.pointer (some ⟨b, 0, none⟩)] noMem [seA b s] (fun _ : Unit => .bool false) (fun _ _ => True) (fun _ => [seA b s]) := by
  refine Ctr.mk fun w F m C _ => x_ident_Set_none _ w _ ?_
  obtain ⟨mb, C⟩ := seO C
  exact ⟨some mb, C.blkCell (j := 0) rfl, Ctr.ret () rfl trivial (seI mb C)⟩
theorem c_Has (b : Nat) (s : Se) (d : J) : Ctr Try.prog 30 #[.pointer (some ⟨b, 0, none⟩), jV d] noMem [seA b s] (fun _ : Unit => .bool (s.has d)) (fun _ _ => True) (fun _ => [seA b s]) := by
  refine Ctr.mk fun w F m C _ => x_ident_Set_Has _ _ _ _ _ _ _ _ _ _ _ w _ fun w1 L2 h1 g1 => ?_
  refine (c_none b s).call (C.hidL h1 g1) trivial fun _ m1 w4 hk hm _ C => ⟨_, rfl, hk, ?_⟩
  rw [if_neg (by decide)]
  obtain ⟨mb, C⟩ := seO C
  have hf : ∀ {w' L'} {As' : List Asn}, Ctx F m w w' L' m1 (seB b s.most mb :: As') → FactsW [(⟨b, 0, none⟩, [.map (some mb)])] w' L' := fun C => C.blkFact1 0 _ rfl (facts_nil _ _)
  have hsame : ∀ (u : World) (k : Nat), u.setCells k 0 [] = u := fun u k => rfl
  refine ⟨_, hf C, some mb, by simp [Addr.add_mid], fun w8 L9 h8 g8 => ?_, fun w8 L9 h8 g8 => ?_⟩
  · replace C := C.hidL h8 g8
    have CA := C.alloc [] 95
    refine ⟨_, w8, look_se (C.pm [1, 0] rfl) d, kept_refl _ _, hf C, hf (CA.pm [1, 0, 2] rfl), rfl, fun j hj => absurd hj (by omega), fun hm => absurd (C.loc _ hm).2 (Nat.lt_irrefl _), ?_⟩
    exact Ctr.ret (m' := m1) (L := L9) () rfl trivial (seI mb CA.drop)
  · replace C := C.hidL h8 g8
    have CA := C.alloc [] 95
    refine ⟨hf (CA.pm [1, 0, 2] rfl), _, _, look_se (CA.pm [2, 0, 1] rfl) d, kept_refl _ _, hf (CA.pm [1, 0, 2] rfl), rfl, fun j hj => absurd hj (by omega), fun hm => absurd (C.loc _ hm).2 (Nat.lt_irrefl _), ?_⟩
    exact Ctr.ret (m' := m1) (L := L9) () rfl trivial (seI mb CA.drop)
theorem c_Len (b : Nat) (s : Se) : Ctr Try.prog 31 #[.pointer (some ⟨b, 0, none⟩)] noMem [seA b s] (fun _ : Unit => .int .i64 s.l.length) (fun _ _ => True) (fun _ => [seA b s]) := by
  refine Ctr.mk fun w F m C _ => x_ident_Set_Len _ w _ ?_
  refine (c_none b s).call C trivial fun _ m1 w2 hk hm _ C => ⟨_, rfl, hk.size, ?_⟩
  rw [if_neg (by decide)]
  obtain ⟨mb, C⟩ := seO C
  refine ⟨some mb, C.blkCell (j := 0) rfl, _, w2, Ctx.mlen (P := Try.prog) (ty := 3) t67 (C.pm [1, 0] rfl), Nat.le_refl _, ?_⟩
  exact Ctr.ret () rfl trivial (seI mb C)
theorem c_Add (b : Nat) (s : Se) (d : J) : Ctr Try.prog 28 #[.pointer (some ⟨b, 0, none⟩), jV d] noMem [seA b s] (fun _ : Unit => .int .i64 (s.add d).1) (fun _ _ => True) (fun _ => [seA b (s.add d).2]) := by
  refine Ctr.mk fun w F m C _ => x_ident_Set_Add _ _ _ _ _ _ _ _ _ _ _ w _ fun w1 L2 h1 g1 => ?_
  refine (c_none b s).call (C.hidL h1 g1) trivial fun _ m1 w4 hk hm _ C => ⟨_, rfl, hk, ?_⟩
  rw [if_pos (by decide)]
  refine C.gives (c_Right d.1 d.2) fun w7 k7 C => ⟨_, rfl, k7, ?_⟩
  cases hr : d.1.right with
  | false =>
    rw [if_pos (by decide)]
    have e : s.add d = (1, s) := by simp [Se.add, hr]
    rw [e]
    exact Ctr.ret () rfl trivial C
  | true =>
    rw [if_neg (by decide)]
    refine (c_Has b s d).call (As := []) C trivial fun _ m2 w10 hk2 hm2 _ C => ⟨_, rfl, hk2, ?_⟩
    cases hh : s.has d with
    | true =>
      rw [if_pos rfl]
      have e : s.add d = (4, s) := by simp [Se.add, hr, hh]
      rw [e]; exact Ctr.ret () rfl trivial C
    | false =>
      rw [if_neg (by decide)]
      obtain ⟨mb, C⟩ := seO C
      have hf : ∀ {w' L'} {As' : List Asn}, Ctx F m w w' L' m2 (seB b s.most mb :: As') → FactsW [(⟨b, 0, none⟩, [.map (some mb)]), (⟨b, 1, none⟩, [.int .i64 s.most])] w' L' := fun C => C.blkFact1 0 _ rfl (C.blkFact1 1 _ rfl (facts_nil _ _))
      refine ⟨_, hf C, some mb, by simp [Addr.add_mid], s.most, by simp [Addr.add_mid], fun w15 L16 h15 g15 => ?_⟩
      replace C := C.hidL h15 g15
      refine ⟨_, w15, Ctx.mlen (P := Try.prog) (ty := 3) t67 (C.pm [1, 0] rfl), kept_refl _ _, hf C, ?_⟩
      by_cases hl : (s.l.length : Int) ≥ s.most
      · rw [if_pos (by simpa using hl)]
        have e : s.add d = (11, s) := by simp [Se.add, hr, hh, hl]
        rw [e]; exact Ctr.ret () rfl trivial (seI mb C)
      · rw [if_neg (by simpa using hl)]
        have e : s.add d = (0, { s with l := X.mput d () s.l }) := by simp [Se.add, hr, hh, hl]
        rw [e]
        refine ⟨_, hf C, some mb, by simp [Addr.add_mid], fun w21 L22 h21 g21 => ?_⟩
        obtain ⟨w23, hrn, hk3, C2⟩ := Ctx.mput (P := Try.prog) t67 key35 ((C.hidL h21 g21).pm [1, 0] rfl) d ()
        exact ⟨w23, hrn, hk3, Ctr.ret (m' := m2) (L := L22) () rfl trivial (seI mb (C2.pm [1, 0] rfl))⟩
theorem c_Remove (b : Nat) (s : Se) (d : J) : Ctr Try.prog 29 #[.pointer (some ⟨b, 0, none⟩), jV d] noMem [seA b s] (fun _ : Unit => .bool (s.remove d).1) (fun _ _ => True) (fun _ => [seA b (s.remove d).2]) := by
  refine Ctr.mk fun w F m C _ => x_ident_Set_Remove _ _ _ _ _ _ _ _ _ _ _ w _ fun w1 L2 h1 g1 => ?_
  refine (c_Has b s d).call (As := []) (C.hidL h1 g1) trivial fun _ m1 w4 hk hm _ C => ⟨_, rfl, hk, ?_⟩
  cases hh : s.has d with
  | false =>
    rw [if_neg (by decide)]
    have e : s.remove d = (false, s) := by simp [Se.remove, hh]
    rw [e]; exact Ctr.ret () rfl trivial C
  | true =>
    rw [if_pos rfl]
    have e : s.remove d = (true, { s with l := X.mdel d s.l }) := by simp [Se.remove, hh]
    rw [e]
    obtain ⟨mb, C⟩ := seO C
    refine ⟨[(⟨b, 0, none⟩, [.map (some mb)])], C.blkFact1 0 _ rfl (facts_nil _ _), some mb, by simp [Addr.add_mid], fun w8 L9 h8 g8 => ?_⟩
    obtain ⟨w10, hrn, hk3, C2⟩ := Ctx.mdel (P := Try.prog) (ty := 0) t67 key35 ((C.hidL h8 g8).pm [1, 0] rfl) d
    exact ⟨w10, hrn, hk3, Ctr.ret (m' := m1) (L := L9) () rfl trivial (seI mb (C2.pm [1, 0] rfl))⟩
theorem c_NewSet (a : Int) : Ctr Try.prog 34 #[.int .i64 a] noMem [] (fun b : Nat => .pointer (some ⟨b, 0, none⟩)) (fun _ _ => True) (fun b => [seA b ⟨if (0 : Int) > a then 0 else a, []⟩]) := by
  refine Ctr.mk fun w F m C _ => x_ident_NewSet _ w _ ?_
  have C1 := C.mapNew jV uV
  have C2 := (C1.alloc [.map (some w.heap.size), .int .i64 (if (0 : Int) > a then 0 else a)] 69)
  exact Ctr.ret _ rfl trivial (seI _ C2)
/-- All -/
theorem b64 : appB Try.prog 64 64 35 10 64 = true := by kernel_rfl
theorem c_All (b : Nat) (s : Se) (hs : s.l.length ≤ 1000000) : Ctr Try.prog 32 #[.pointer (some ⟨b, 0, none⟩)] noMem [seA b s] (fun v : Option Addr × Nat => .slice v.1 s.l.length v.2) (fun _ _ => True) (fun v => [slA (.slice v.1 s.l.length v.2) s.l.length (s.all.flatMap jR) 35 10, seA b s]) := by
  refine Ctr.mk fun w F m C _ => x_ident_Set_All _ w _ ?_
  refine (c_none b s).call C trivial fun _ m1 w2 hk hm _ C => ⟨_, rfl, hk.size, ?_⟩
  rw [if_neg (by decide)]
  obtain ⟨mb, C⟩ := seO C
  refine ⟨some mb, C.blkCell (j := 0) rfl, _, w2, Ctx.mlen (P := Try.prog) (ty := 3) t67 (C.pm [1, 0] rfl), Nat.le_refl _, ?_⟩
  obtain ⟨w10, hmk, hk10, C⟩ := Ctx.slMake b64 C s.l.length (by omega)
  refine ⟨_, _, _, w10, hmk, hk10.size, some mb, (C.pm [1, 2, 0] rfl).blkCell (j := 0) rfl, ?_⟩
  obtain ⟨zs, clock, hzs, hnd, C⟩ := Ctx.mapZI (C.pm [2, 1, 0] rfl)
  have hlen : zs.length = s.l.length := by rw [← hzs]; simp
  obtain ⟨hr, hk13, C1⟩ := C.mrange (P := Try.prog) t67
  refine ⟨_, _, hr, hk13.size, ?_⟩
  generalize hit : w10.heap.size = it at C1 ⊢
  refine ⟨fun q n c w' L' => ∃ (seen : Array Nat) (last : Nat) (ys : List ((J × Unit) × Nat)) (m' : Mem), clock ≤ last ∧ Walked zs ys seen ∧ n = ys.length ∧
    Ctx F m w w' [] m' [iterA it mb clock seen last, mapZ mb jV uV zs clock, slA (.slice q n c) n ((ys.map (·.1.1)).flatMap jR) 35 10, seB b s.most mb], fun q n c w' => zs.length + 1 - seenN w' it,
    ⟨#[], clock, [], m1, Nat.le_refl _, Walked.nil _, rfl, C1.pm [0, 1, 3, 2] rfl⟩, ?_⟩
  clear C1 hr hk C hmk hk10 hk13
  rintro q n c w19 L20 _ ⟨seen, last, ys, m', hlast, hw, rfl, D⟩
  have hsz0 := seenN_obj D.objAt.1
  rcases Ctx.mnext (P := Try.prog) 0 rfl hlast D with ⟨hall, hnx⟩ | ⟨i, hi, w23, hns, hnx, hk9, D9⟩
  · refine ⟨false, [], w19, hnx, Nat.le_refl _, ?_⟩
    rw [if_neg (by decide)]
    have hp := hw.perm hnd hall
    have hyl : ys.length = s.l.length := by have := hp.length_eq; simpa [hlen] using this
    have D2 := D.drop.mapZA
    rw [hzs] at D2
    have hl2 : (ys.map (·.1.1)).length = ys.length := by simp
    have D3 := D2.pm [1, 0, 2] rfl
    have CS := c_Sort (ys.map (·.1.1)) (.slice q ys.length c)
    rw [hl2] at CS
    refine CS.call (As := [seM mb s.l, seB b s.most mb]) D3 (by omega) fun _ m3 w25 hk hm _ C => ⟨rfl, hk.size, ?_⟩
    have hsort : sortBy cmpJ (ys.map (·.1.1)) = s.all := by
      have hp1 : (ys.map (·.1.1)).Perm s.keys := by
        have := hp.map Prod.fst
        rw [hzs] at this
        simpa [Se.keys, List.map_map, Function.comp_def] using this
      exact sortBy_eq swoJ totJ hp1
    rw [hsort, hyl] at C
    rw [hyl]
    refine Ctr.ret (m' := m3) (L := []) (q, c) rfl trivial ?_
    exact (seI mb (C.noL.pm [2, 1, 0] rfl)).swap
  · refine ⟨true, [_, _], w23, hnx, hk9.size, ?_⟩
    rw [if_pos rfl]
    have hent := Ctx.mentry (P := Try.prog) hi D9
    refine ⟨_, _, _, _, _, _, _, _, _, _, w23, hent, Nat.le_refl _, fun w37 L38 h37 g37 => ?_⟩
    have hw2 := hw.push hi hns
    have hc2 := hw2.len
    have hys := hw.size
    rw [Array.size_push] at hc2
    have D10 := D9.hidL h37 g37
    have D11 := D10.alloc (jR zs[i].1.1) 35
    have hb := D11.blkAt
    have hsrc : Src (w37.alloc (.cells (jR zs[i].1.1).toArray 35)) 10 (.slice (some ⟨w37.heap.size, 0, none⟩) 1 1) 1 (jR zs[i].1.1) :=
      .some _ _ _ _ (by rfl) (D11.blkCells fun j v hj => by simpa using hj)
    obtain ⟨q2, c2, w42, hap, hk42, D12⟩ := Ctx.app (P := Try.prog) (D11.pm [3, 0, 1, 2, 4] rfl) 64 b64 hsrc (by omega) (jR_one _)
    refine ⟨_, _, _, w42, hap, hk42, ⟨_, clock, ys ++ [zs[i]], m', Nat.le_refl _, hw2, by simp, ?_⟩, ?_⟩
    · have e : (ys ++ [zs[i]]).map (fun y : (J × Unit) × Nat => y.1.1) = ys.map (·.1.1) ++ [zs[i].1.1] := by simp
      rw [e, List.flatMap_append]
      have e2 : ([zs[i].1.1] : List J).flatMap jR = jR zs[i].1.1 := by simp
      rw [e2]
      exact (D12.pk [2, 3, 0, 4] [1] rfl).noL
    · show Nat.le (zs.length + 1 - seenN w42 it + 1) (zs.length + 1 - seenN w19 it)
      rw [seenN_obj (D12.pm [2, 0, 1, 3, 4] rfl).objAt.1, hsz0, Array.size_push]; exact Nat.le_of_eq (by omega)
end Go.Proofs
