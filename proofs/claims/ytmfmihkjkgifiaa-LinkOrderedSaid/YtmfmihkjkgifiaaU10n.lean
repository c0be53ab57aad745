import Derived.Test.YtmfmihkjkgifiaaU10m
import Derived.Test.YtmfmihkjkgifiaaV10f
import Derived.Test.YtmfmihkjkgifiaaU10g
set_option linter.unusedVariables false
set_option linter.unusedSimpArgs false
set_option maxRecDepth 10000
namespace Go.Proofs
open Go X RowKit
structure Stp where (kd x i : Int)
@[reducible] def Stp.row (s : Stp) : List Value := [.int .i64 s.kd, .int .i64 s.x, .int .i64 s.i]
theorem stp_len (s : Stp) : s.row.length = 3 := rfl
def Stp.ok (s : Stp) : Prop := (-9223372036854775808 ≤ s.x ∧ s.x < 9223372036854775808) ∧ (-9223372036854775808 ≤ s.i ∧ s.i < 9223372036854775808)
theorem c_hear (fb : Nat) (f : Fd) (t : Bool) (p : Pk) (hW : (f.x t).W.length ≤ 32) (hE : (f.x t).E.length ≤ 100000) (hC : (f.C t).length ≤ 1000000) (hp : p.tn = nodeN t) :
    Ctr Try.prog 28 #[.pointer (some ⟨fb, 0, none⟩), p.V] (fun m => BrM m p.b ∧ FdM m f) [fdA fb f] (fun _ : Br => .tuple #[]) (fun nb m => nb.bs = p.b.bs ∧ FdM m (f.heard t p nb)) (fun nb => [fdA fb (f.heard t p nb)]) := by
  cases t
  · exact c_hear_false fb f p hW hE hC hp
  · exact c_hear_true fb f p hW hE hC hp
def bi (t : Bool) : Nat := if t then 1 else 0
section
variable {F0 : List Nat} {m0 : Mem} {w0 w : World} {L : List Nat} {m : Mem} {As : List Asn}
/-- the field opened at one end -/
theorem fdOt {fb : Nat} {f : Fd} {p : Fp} (t : Bool) (C : Ctx F0 m0 w0 w L m (fdAs fb f p ++ As)) : Ctx F0 m0 w0 w L m ([lkA (f.b t) (f.x t)] ++ (blk fb (f.row p) 69 :: lkA (f.b (!t)) (f.x (!t)) :: pksA p.f.1 p.f.2 f.fly :: strA p.s0 (f.S false) :: strA p.s1 (f.S true) :: strA p.c0 (f.C false) :: strA p.c1 (f.C true) :: As)) := by
  cases t
  · exact C.swap
  · exact C.third
theorem fdIt {fb : Nat} {f : Fd} {p : Fp} {x : Lk} (t : Bool) (C : Ctx F0 m0 w0 w L m ([lkA (f.b t) x] ++ (blk fb (f.row p) 69 :: lkA (f.b (!t)) (f.x (!t)) :: pksA p.f.1 p.f.2 f.fly :: strA p.s0 (f.S false) :: strA p.s1 (f.S true) :: strA p.c0 (f.C false) :: strA p.c1 (f.C true) :: As))) : Ctx F0 m0 w0 w L m (fdA fb { f with x := up t x f.x } :: As) := by
  refine fdI p ?_
  cases t
  · simpa [fdAs, Fd.row, up] using C.swap
  · have := C.swap
    have h2 : Ctx F0 m0 w0 w L m (blk fb (f.row p) 69 :: lkA (f.b false) (f.x false) :: lkA (f.b true) x :: pksA p.f.1 p.f.2 f.fly :: strA p.s0 (f.S false) :: strA p.s1 (f.S true) :: strA p.c0 (f.C false) :: strA p.c1 (f.C true) :: As) :=
      this.perm (List.Perm.cons _ (.swap ..))
    simpa [fdAs, Fd.row, up] using h2
/-- what came, and what was sent -/
theorem fdOs {fb : Nat} {f : Fd} {p : Fp} (t : Bool) (C : Ctx F0 m0 w0 w L m (fdAs fb f p ++ [])) : ∃ (cp sp : Option Addr × Nat), Ctx F0 m0 w0 w L m ([strA cp (f.C (!t)), strA sp (f.S t)] ++ (match t with
    | false => [blk fb (f.row p) 69, lkA (f.b false) (f.x false), lkA (f.b true) (f.x true), pksA p.f.1 p.f.2 f.fly, strA p.s1 (f.S true), strA p.c0 (f.C false)]
    | true => [blk fb (f.row p) 69, lkA (f.b false) (f.x false), lkA (f.b true) (f.x true), pksA p.f.1 p.f.2 f.fly, strA p.s0 (f.S false), strA p.c1 (f.C true)])) ∧
    cp = (match t with | false => p.c1 | true => p.c0) ∧ sp = (match t with | false => p.s0 | true => p.s1) := by
  cases t
  · exact ⟨p.c1, p.s0, C.pm [7, 4, 0, 1, 2, 3, 5, 6] rfl, rfl, rfl⟩
  · exact ⟨p.c0, p.s1, C.pm [6, 5, 0, 1, 2, 3, 4, 7] rfl, rfl, rfl⟩
end
theorem begins {first ag : Int} {ns ne nn : Nat} {f : Fd} {k : Bool → Nat} (I : FI first ag ns ne nn f k) (t : Bool) : (∀ i, i < (f.C (!t)).length → (f.C (!t))[i]? = (f.S t)[i]?) ∧ (f.C (!t)).length ≤ (f.S t).length := by
  have h := I.rec_ (!t); rw [Bool.not_not] at h
  exact ⟨h.pre, h.le⟩
/-- a call of 'beginning', within the field -/
theorem call_begin {F0 : List Nat} {m0 : Mem} {w0 w : World} {m : Mem} {fb : Nat} {f : Fd} {p : Fp} {first ag : Int} {ns ne nn : Nat} {k : Bool → Nat} (I : FI first ag ns ne nn f k) (hns : ns ≤ 1000000) (C : Ctx F0 m0 w0 w [] m (fdAs fb f p ++ [])) {R : Ending → World → Prop} (t : Bool) {cv sv : Option Addr × Nat}
    (hc : cv = (match t with | false => p.c1 | true => p.c0)) (hs : sv = (match t with | false => p.s0 | true => p.s1))
    (hR : ∀ m' w', m.le m' → w.heap.size ≤ w'.heap.size → Ctx F0 m0 w0 w' [] m' (fdAs fb f p ++ []) → R (.returned (.bool true)) w') : CallX Try.prog 27 #[slV cv (f.C (!t)).length, slV sv (f.S t).length] w R := by
  have hb := begins I t
  have hl := I.SL t
  cases t
  · subst hc; subst hs
    refine (c_beginning (f.C true) (f.S false) p.c1 p.s0 (by have := hb.2; simp only [Bool.not_false] at this; omega)).call (C.pm [7, 4, 0, 1, 2, 3, 5, 6] rfl) trivial fun i m' w' hk hm _ C => ?_
    rw [i.2 hb]
    exact hR m' w' hm hk.size (C.pm [2, 3, 4, 5, 1, 6, 7, 0] rfl)
  · subst hc; subst hs
    refine (c_beginning (f.C false) (f.S true) p.c0 p.s1 (by have := hb.2; simp only [Bool.not_true] at this; omega)).call (C.pm [6, 5, 0, 1, 2, 3, 4, 7] rfl) trivial fun i m' w' hk hm _ C => ?_
    rw [i.2 hb]
    exact hR m' w' hm hk.size (C.pm [2, 3, 4, 5, 6, 1, 0, 7] rfl)
theorem l_LinkOrdered (w : World) (a b : Int) (ha : 0 ≤ a ∧ a < 18446744073709551616) (hb : -9223372036854775808 ≤ b ∧ b < 9223372036854775808) (q : Option Addr) (c : Nat) (ss : List Stp) (hr : ∀ s ∈ ss, s.ok)
    (hs : MSrc (memOf w) 3 (.slice q ss.length c) ss.length (ss.flatMap Stp.row)) : Calls Try.prog 4 #[.int .u64 a, .int .i64 b, .slice q ss.length c] w (LawR w) := by
  refine x_gemotlaw10_LinkOrdered _ _ _ _ _ w _ ?_
  have C := lawStart w
  by_cases h150 : ss.length ≤ 150
  rotate_left
  · rw [if_neg (by simp; omega)]
    exact c_knows.call C trivial fun _ m1 w2 hk hm _ C => ⟨true, rfl, hk.size, rfl, C.at_⟩
  rw [if_pos (by simp; omega)]
  refine c_knows.call C trivial fun _ m1 w5 hk hm _ C => ⟨true, rfl, hk.size, ?_⟩
  rw [if_neg (by decide)]
  have hs1 := hs.mono hm
  clear hs
  have hfirst : ∃ first : Int, IntKind.wrap .u64 (a.tdiv 2) = first ∧ 0 ≤ first ∧ first < 9223372036854775808 := by
    have h1 : a.tdiv 2 = a / 2 := Int.tdiv_eq_ediv_of_nonneg ha.1
    refine ⟨_, rfl, ?_⟩
    rw [h1, w_u64 (by omega) (by omega)]; omega
  obtain ⟨first, ef, hf0, hf1⟩ := hfirst
  have hag : ∃ ag : Int, IntKind.wrap .i64 (1 + ((IntKind.i64.wrap (b.tmod 5 + 5)).tmod 5)) = ag ∧ 1 ≤ ag ∧ ag ≤ 5 := by
    have h1 := Int.tmod_lt_of_pos b (show (0 : Int) < 5 by omega)
    have h2 := Int.lt_tmod_of_pos b (show (0 : Int) < 5 by omega)
    rw [w_i64 (n := b.tmod 5 + 5) (by omega) (by omega)]
    have h3 := Int.tmod_lt_of_pos (b.tmod 5 + 5) (show (0 : Int) < 5 by omega)
    have h4 := Int.tmod_nonneg (a := b.tmod 5 + 5) 5 (by omega)
    exact ⟨_, rfl, by rw [w_i64 (by omega) (by omega)]; omega, by rw [w_i64 (by omega) (by omega)]; omega⟩
  obtain ⟨ag, eg, hg1, hg5⟩ := hag
  rw [ef, eg]
  have C1 := C.alloc [.pointer none, .pointer none, .slice none 0 0, .slice none 0 0, .slice none 0 0, .slice none 0 0, .slice none 0 0, .int .i64 0] 69
  generalize hfb : w5.heap.size = fb at C1 ⊢
  refine ⟨[], facts_nil _ _, fun w8 h8 => ?_⟩
  replace C1 := C1.hid0 h8
  refine (c_ends first ag).call (As := [_]) C1 trivial fun bb m2 w10 hk hm2 _ C2 => ⟨_, _, rfl, hk.size, ?_⟩
  have hs2 := hs1.mono hm2
  replace C2 := C2.pm [2, 0, 1] rfl
  simp only [sel, nth, List.append_nil, List.cons_append, List.nil_append] at C2
  have C3 := C2.store 0 [lpV bb.1] (by simp)
  have C4 := C3.store 1 [lpV bb.2] (by simp [splice])
  refine ⟨by decide, by decide, rfl, C2.there 0 1 (by simp), by decide, by decide, rfl, C3.there 1 1 (by simp [splice]), ?_⟩
  -- all that is asked
  have elk : ∀ mn ml pn pl : Int, lk0 mn ml pn pl first ag = ⟨mn, ml, pn, pl, ag, first, first, [], [], false⟩ := fun mn ml pn pl => by
    have : (if (1 : Int) > ag then (1 : Int) else ag) = ag := by split <;> omega
    rw [lk0, this]
  let f0 : Fd := ⟨fun t => if t then bb.2 else bb.1, fun t => if t then lk0 2 3 1 1 first ag else lk0 1 1 2 3 first ag, [], fun _ => [], fun _ => [], 0⟩
  have I0 : FI first ag 0 0 0 f0 (fun _ => 0) := by
    refine ⟨fun t => ?_, fun t => ?_, fun t => Nat.le_refl _, fun t => ?_, fun t => Nat.le_refl _, fun t => ?_, fun t => ?_, Int.le_refl _, Int.le_refl _⟩
    · cases t <;> exact ⟨by simp [f0], rfl, by simp [f0], fun i s h => by simp [f0] at h⟩
    · cases t <;> exact ⟨Nat.le_refl _, fun i h => by simp [f0] at h, by simp [f0], fun e h => by simp [f0] at h⟩
    · cases t <;> simp only [f0, elk] <;> exact ⟨rfl, rfl, rfl, rfl, rfl⟩
    · cases t <;> exact Nat.le_refl _
    · cases t <;> exact fun s h => by simp [f0] at h
  have hM0 : FdM m2 f0 := ⟨fun t => by cases t <;> exact ⟨by simp [f0], by simp [f0]⟩, by simp [f0]⟩
  have C5 : Ctx [] (memOf w) w ((w10.setCells fb 0 [lpV bb.1]).setCells fb 1 [lpV bb.2]) [] m2 [fdA fb f0] := by
    refine fdI ⟨(none, 0), (none, 0), (none, 0), (none, 0), (none, 0)⟩ ?_
    have D1 := Ctx.slNil (q := none) (ty := 53) (sz := 8) (Ctx.slNil (q := none) (ty := 9) (sz := 1) (Ctx.slNil (q := none) (ty := 9) (sz := 1) (Ctx.slNil (q := none) (ty := 9) (sz := 1) (Ctx.slNil (q := none) (ty := 9) (sz := 1) C4))))
    have D2 := D1.pm [5, 6, 7, 0, 1, 2, 3, 4] rfl
    exact D2
  refine ⟨fun n w' _ => ∃ (i : Nat) (f : Fd) (k : Bool → Nat) (m : Mem), n = i ∧ i ≤ ss.length ∧ FI first ag i i i f k ∧ FlyOK first f ∧ FdM m f ∧ m2.le m ∧ Ctx [] (memOf w) w w' [] m [fdA fb f], fun n _ => (ss.length - n).toNat,
    ⟨0, f0, _, m2, rfl, by omega, I0, ⟨by simp [f0], by simp [f0]⟩, hM0, Mem.le_refl _, C5⟩, ?_⟩
  clear C5 hM0 C4 C3 C2 C1 C
  rintro n w16 L17 _ ⟨i, f, k, m, rfl, hi, I, hFl, hM, hmm, D⟩
  by_cases h1 : i < ss.length
  · rw [if_pos (by simpa using h1)]
    refine ⟨by omega, by simpa using h1, ?_⟩
    obtain ⟨pa, rfl, hcell⟩ := (hs2.mono hmm).elem stp_len h1
    rw [onSome_some]
    refine ⟨_, _, _, D.cells hcell, ?_⟩
    have hok := hr _ (List.getElem_mem h1)
    refine (c_step fb f k i (by omega) first ag hf0 hf1 I hFl ss[i].kd ss[i].x ss[i].i hok.1 hok.2).call D hM fun g m3 w127 hk hm3 hM3 D => ⟨rfl, hk.size, ?_⟩
    obtain ⟨g, ⟨k', I'⟩, hFl', hbb⟩ := g
    simp only at hM3 D
    obtain ⟨fp, D⟩ := fdO D
    have hfacts : ∀ {w' m'} {As' : List Asn}, Ctx [] (memOf w) w w' [] m' (blk fb (g.row fp) 69 :: As') → FactsW [(⟨fb, 6, none⟩, [slV fp.c1 (g.C true).length]), (⟨fb, 3, none⟩, [slV fp.s0 (g.S false).length]), (⟨fb, 5, none⟩, [slV fp.c0 (g.C false).length]), (⟨fb, 4, none⟩, [slV fp.s1 (g.S true).length])] w' [] := fun D =>
      D.blkFact1 6 _ rfl (D.blkFact1 3 _ rfl (D.blkFact1 5 _ rfl (D.blkFact1 4 _ rfl (facts_nil _ _))))
    refine ⟨_, hfacts D, by decide, by decide, fp.c1.1, (g.C true).length, fp.c1.2, by simp [slV], by decide, by decide, fp.s0.1, (g.S false).length, fp.s0.2, by simp [slV], fun w135 h135 => ?_⟩
    replace D := D.hid0 h135
    refine call_begin I' (by omega) D false (cv := fp.c1) (sv := fp.s0) rfl rfl fun m4 w137 hm4 hsz D => ⟨true, rfl, hsz, hfacts D, _, hfacts D, fun _ h => h, ?_⟩
    rw [if_pos (by decide)]
    refine ⟨by decide, by decide, fp.c0.1, (g.C false).length, fp.c0.2, by simp [slV], by decide, by decide, fp.s1.1, (g.S true).length, fp.s1.2, by simp [slV], ?_⟩
    refine call_begin I' (by omega) D true (cv := fp.c0) (sv := fp.s1) rfl rfl fun m5 w148 hm5 hsz D => ⟨true, rfl, hsz, hfacts D, ?_⟩
    rw [if_neg (by decide)]
    have e : IntKind.wrap .i64 ((i : Int) + 1) = ((i + 1 : Nat) : Int) := by rw [w_i64 (by omega) (by omega)]; omega
    rw [e]
    exact ⟨⟨i + 1, g, k', m5, rfl, h1, I', hFl', (hM3.mono hm4).mono hm5, ((hmm.le_trans hm3).le_trans hm4).le_trans hm5, fdI fp D⟩, Nat.le_of_eq (by show ((ss.length : Int) - ((i + 1 : Nat) : Int)).toNat + 1 = ((ss.length : Int) - (i : Int)).toNat; omega)⟩
  rw [if_neg (by simpa using h1)]
  have I150 : FI first ag 150 150 150 f k := I.more (by omega) (by omega) (by omega)
  clear I hFl hmm hs2 hs1 I0 hr
  -- told and heard in turns
  refine ⟨fun n w' _ => ∃ (r : Nat) (f : Fd) (k : Bool → Nat) (m : Mem), n = r ∧ r ≤ 60 ∧ FI first ag 150 (150 + 16 * r) (150 + 6 * r) f k ∧ Tn false r r f k ∧ FdM m f ∧ Ctx [] (memOf w) w w' [] m [fdA fb f], fun n _ => (60 - n).toNat,
    ⟨0, f, k, m, rfl, by omega, I150, Tn.start _ _ _, hM, D⟩, ?_⟩
  clear D hM I150 h1
  rintro n w21 L22 _ ⟨r, f, k, m, rfl, hr, I, T, hM, D⟩
  by_cases h1 : r < 60
  · rw [if_pos (by simp only [decide_eq_true_eq]; omega)]
    obtain ⟨fp, D⟩ := fdO D
    have hn0 := I.now0
    have hn1 := I.now1
    have enow : IntKind.wrap .i64 (f.now + 6) = f.now + 6 := w_i64 (by omega) (by omega)
    refine ⟨f.now, D.blkCell (j := 7) rfl, rfl, D.there 7 1 (by simp), ?_⟩
    rw [enow]
    have D1 : Ctx [] (memOf w) w (w21.setCells fb 7 [.int .i64 (f.now + 6)]) [] m [fdA fb { f with now := f.now + 6 }] := by
      have := D.store 7 [.int .i64 (f.now + 6)] (by simp)
      refine fdI fp ?_
      simpa [splice, fdAs] using this
    have I1 := I.tick 6
    have hT1 : ∀ t, Told f.now (({ f with now := f.now + 6 } : Fd).x t) := I.told
    have T1 : Tn false r r { f with now := f.now + 6 } k := ⟨T.a, T.a2, T.b⟩
    have hM1 : FdM m { f with now := f.now + 6 } := hM
    change FI first ag 150 (150 + 16 * r) (150 + 6 * r + 6) { f with now := f.now + 6 } k at I1
    have hnow : ({ f with now := f.now + 6 } : Fd).now = f.now + 6 := rfl
    generalize hf' : ({ f with now := f.now + 6 } : Fd) = f' at D1 I1 hT1 T1 hM1 hnow
    generalize hN : f.now = N at hT1 hnow hn0 hn1 D1 ⊢
    clear hf' D I T hM enow
    -- one end's turn: what stands when n ends have told
    refine ⟨fun n w' _ => (n = 0 ∧ ∃ f k m, FI first ag 150 (150 + 16 * r) (150 + 6 * r + 6) f k ∧ (∀ t, Told N (f.x t)) ∧ Tn false r r f k ∧ f.now = N + 6 ∧ FdM m f ∧ Ctx [] (memOf w) w w' [] m [fdA fb f]) ∨
        (n = 1 ∧ ∃ f k m, FI first ag 150 (150 + 16 * r + 8) (150 + 6 * r + 6) f k ∧ Told N (f.x true) ∧ Tn true r (r + 1) f k ∧ f.now = N + 6 ∧ FdM m f ∧ Ctx [] (memOf w) w w' [] m [fdA fb f]) ∨
        (n = 2 ∧ ∃ f k m, FI first ag 150 (150 + 16 * (r + 1)) (150 + 6 * (r + 1)) f k ∧ Tn false (r + 1) (r + 1) f k ∧ FdM m f ∧ Ctx [] (memOf w) w w' [] m [fdA fb f]), fun n _ => (2 - n).toNat,
      .inl ⟨rfl, f', k, m, I1, hT1, T1, hnow, hM1, D1⟩, ?_⟩
    clear D1 I1 hT1 T1 hM1 hnow
    rintro n w93 L94 _ hinv
    have hcase : (∃ (t : Bool) (f : Fd) (k : Bool → Nat) (m : Mem) (s ne : Nat), n = (bi t : Int) ∧ s = r + bi t ∧ ne = 150 + 16 * r + 8 * bi t ∧ FI first ag 150 ne (150 + 6 * r + 6) f k ∧ Told N (f.x t) ∧ (t = false → Told N (f.x true)) ∧ Tn t r s f k ∧ f.now = N + 6 ∧ FdM m f ∧ Ctx [] (memOf w) w w93 [] m [fdA fb f]) ∨
        (n = 2 ∧ ∃ f k m, FI first ag 150 (150 + 16 * (r + 1)) (150 + 6 * (r + 1)) f k ∧ Tn false (r + 1) (r + 1) f k ∧ FdM m f ∧ Ctx [] (memOf w) w w93 [] m [fdA fb f]) := by
      rcases hinv with ⟨rfl, f, k, m, I, hT, T, hn, hM, D⟩ | ⟨rfl, f, k, m, I, hT, T, hn, hM, D⟩ | h
      · exact .inl ⟨false, f, k, m, _, _, rfl, rfl, rfl, I, hT _, fun _ => hT _, T, hn, hM, D⟩
      · exact .inl ⟨true, f, k, m, _, _, rfl, rfl, rfl, I, hT, (fun h => by cases h), T, hn, hM, D⟩
      · exact .inr h
    clear hinv
    rcases hcase with ⟨t, f, k, m, s, ne, rfl, es, ene, I, hT, hT2, T, hn, hM, D⟩ | ⟨rfl, f, k, m, I, T, hM, D⟩
    · have hb2 : bi t < 2 := by cases t <;> decide
      rw [if_pos (by simp; omega)]
      obtain ⟨fp, D⟩ := fdO D
      have hcl : (f.row fp)[bi t]? = some (lpV (f.b t)) := by cases t <;> rfl
      refine ⟨[(⟨fb, bi t, none⟩, [lpV (f.b t)]), (⟨fb, 7, none⟩, [.int .i64 f.now])], D.blkFact1 (bi t) _ hcl (D.blkFact1 7 _ rfl (facts_nil _ _)), by omega, by omega, some ⟨f.b t, 0, none⟩, by cases t <;> simp [bi, Addr.add_mid], f.now, by simp, fun w98 h98 => ?_⟩
      have D1 := fdOt t (D.hid0 h98)
      refine (c_Out (f.b t) (f.x t) f.now (I.dir t).w32).call D1 (hM.1 t) fun o m3 w100 hk hm3 ho D2 => ⟨_, _, _, rfl, hk.size, ?_⟩
      obtain ⟨ol, oq, oc⟩ := o
      simp only at ho D2 ⊢
      obtain ⟨ho1, ho2, ho3⟩ := ho
      have hol : ol.length ≤ 8 := by have := congrArg List.length ho1; rw [List.length_map] at this; have := outs_le (f.x t) f.now; omega
      have hdue : dueAll (f.x t) f.now := fun s hs => by
        obtain ⟨_, _, _, _, e⟩ := I.nm t
        have h3 := hT s hs
        rw [e]; exact due_all h3.1 (by omega) (by omega) (by omega)
      have D3 : Ctx [] (memOf w) w w100 [] m3 [fdA fb (f.out t), pksA oq oc ol] := by
        have D4 : Ctx [] (memOf w) w w100 [] m3 ([lkA (f.b t) ((f.x t).told f.now)] ++ (blk fb (f.row fp) 69 :: lkA (f.b (!t)) (f.x (!t)) :: pksA fp.f.1 fp.f.2 f.fly :: strA fp.s0 (f.S false) :: strA fp.s1 (f.S true) :: strA fp.c0 (f.C false) :: strA fp.c1 (f.C true) :: [pksA oq oc ol])) := D2.pm [0, 2, 3, 4, 5, 6, 7, 8, 1] rfl
        exact fdIt t D4
      have hMo : FdM m3 (f.out t) := ⟨all_b t (by simp only [Fd.out, up_same]; exact ho3) (by simp only [Fd.out, up_not]; exact (hM.1 _).mono hm3), fun p hp => (hM.2 p hp).mono hm3⟩
      refine ⟨fun n w' _ => ∃ (i : Nat) (g : Fd) (k' : Bool → Nat) (m : Mem), n = i ∧ i ≤ ol.length ∧ FI first ag 150 (ne + i) (150 + 6 * r + 6) g k' ∧ HalfI f k t i g k' ∧ m3.le m ∧ FdM m g ∧ Ctx [] (memOf w) w w' [] m [fdA fb g, pksA oq oc ol], fun n _ => (8 - n).toNat,
        ⟨0, _, _, m3, rfl, by omega, I.out t, HalfI.start I t, Mem.le_refl _, hMo, D3⟩, ?_⟩
      clear D3 hMo D2 D1 D
      rintro n w107 L108 _ ⟨i, g, k', m', rfl, hi, Ig, H, hm', hMg, D⟩
      by_cases h2 : i < ol.length
      · rw [if_pos (by simpa using h2)]
        refine ⟨by omega, by simpa using h2, ?_⟩
        have hrl : (ol.flatMap Pk.row).length = ol.length * 8 := flat_len pk_len _
        obtain ⟨pa, rfl⟩ := slice_some D.swap (by intro h; rw [h] at hrl; simp at hrl; omega)
        rw [onSome_some]
        refine ⟨_, _, _, _, _, _, _, _, _, _, cells_elem pk_len (D.swap.slCells.1 pa rfl).1 i h2, ?_⟩
        have hp := (I.pks t ho1 (List.getElem_mem h2)).1
        refine (c_hear fb g (!t) ol[i] (Ig.dir (!t)).w32 (by have := Ig.EL (!t); cases t <;> simp [bi] at ene <;> omega) (by have h3 := (Ig.rec_ (!t)).le; have h4 := Ig.SL (!!t); omega) hp.tn).call D ⟨(ho2 _ (List.getElem_mem h2)).mono hm', hMg⟩ fun nb m4 w121 hk hm4 hpost D => ⟨rfl, hk.size, ?_⟩
        obtain ⟨hn1', hM4⟩ := hpost
        obtain ⟨k'', hF2, H2⟩ := H.step hf0 (by omega) I hdue ho1 Ig h2 hn1'
        have e : IntKind.wrap .i64 ((i : Int) + 1) = ((i + 1 : Nat) : Int) := by rw [w_i64 (by omega) (by omega)]; omega
        rw [e]
        exact ⟨⟨i + 1, _, k'', m4, rfl, h2, hF2, H2, hm'.le_trans hm4, hM4, D⟩, Nat.le_of_eq (by show ((8 : Int) - ((i + 1 : Nat) : Int)).toNat + 1 = ((8 : Int) - (i : Int)).toNat; omega)⟩
      · rw [if_neg (by simpa using h2)]
        have hil : i = ol.length := by omega
        subst hil
        have T2 := T.next I hdue ho1 H
        have e : IntKind.wrap .i64 ((bi t : Int) + 1) = ((bi t + 1 : Nat) : Int) := by rw [w_i64 (by omega) (by omega)]; omega
        rw [e]
        have D' := D.swap.drop
        refine ⟨?_, Nat.le_of_eq (by show ((2 : Int) - ((bi t + 1 : Nat) : Int)).toNat + 1 = ((2 : Int) - (bi t : Int)).toNat; omega)⟩
        cases t
        · refine .inr (.inl ⟨rfl, g, k', m', Ig.more (Nat.le_refl _) (by simp [bi] at ene; omega) (Nat.le_refl _), fun s hs => hT2 rfl s (H.old s hs), ?_, by rw [H.now]; exact hn, hMg, D'⟩)
          simp [bi] at es; subst es; exact T2
        · refine .inr (.inr ⟨rfl, g, k', m', Ig.more (Nat.le_refl _) (by simp [bi] at ene; omega) (by omega), ?_, hMg, D'⟩)
          simp [bi] at es; subst es; exact T2
    · rw [if_neg (by decide)]
      have e : IntKind.wrap .i64 ((r : Int) + 1) = ((r + 1 : Nat) : Int) := by rw [w_i64 (by omega) (by omega)]; omega
      rw [e]
      exact ⟨⟨r + 1, f, k, m, rfl, h1, I, T, hM, D⟩, Nat.le_of_eq (by show ((60 : Int) - ((r + 1 : Nat) : Int)).toNat + 1 = ((60 : Int) - (r : Int)).toNat; omega)⟩
  -- all came
  rw [if_neg (by simp only [decide_eq_true_eq]; omega)]
  have hr60 : r = 60 := by omega
  subst hr60
  have hall := T.all I (by omega) (by omega)
  obtain ⟨fp, D⟩ := fdO D
  have hfacts : ∀ {w' m'} {As' : List Asn}, Ctx [] (memOf w) w w' [] m' (blk fb (f.row fp) 69 :: As') → FactsW [(⟨fb, 6, none⟩, [slV fp.c1 (f.C true).length]), (⟨fb, 3, none⟩, [slV fp.s0 (f.S false).length]), (⟨fb, 5, none⟩, [slV fp.c0 (f.C false).length]), (⟨fb, 4, none⟩, [slV fp.s1 (f.S true).length]), (⟨fb, 0, none⟩, [lpV (f.b false)]), (⟨fb, 1, none⟩, [lpV (f.b true)])] w' [] := fun D =>
    D.blkFact1 6 _ rfl (D.blkFact1 3 _ rfl (D.blkFact1 5 _ rfl (D.blkFact1 4 _ rfl (D.blkFact1 0 _ rfl (D.blkFact1 1 _ rfl (facts_nil _ _))))))
  have hl0 : (f.C true).length = (f.S false).length := (hall false).2
  have hl1 : (f.C false).length = (f.S true).length := (hall true).2
  refine ⟨_, hfacts D, by decide, by decide, fp.c1.1, (f.C true).length, fp.c1.2, by simp [slV], by decide, by decide, fp.s0.1, (f.S false).length, fp.s0.2, by simp [slV], ?_⟩
  rw [if_pos (by rw [hl0]; simp)]
  refine ⟨by decide, by decide, fp.c0.1, (f.C false).length, fp.c0.2, by simp [slV], by decide, by decide, fp.s1.1, (f.S true).length, fp.s1.2, by simp [slV], ?_⟩
  rw [if_pos (by rw [hl1]; simp)]
  refine ⟨by decide, by decide, fp.c1.1, (f.C true).length, fp.c1.2, by simp [slV], by decide, by decide, fp.s0.1, (f.S false).length, fp.s0.2, by simp [slV], fun w56 h56 => ?_⟩
  replace D := D.hid0 h56
  refine call_begin I (by omega) D false (cv := fp.c1) (sv := fp.s0) rfl rfl fun m4 w58 hm4 hsz D => ⟨true, rfl, hsz, hfacts D, _, hfacts D, fun _ h => h, ?_⟩
  rw [if_pos (by decide)]
  refine ⟨by decide, by decide, fp.c0.1, (f.C false).length, fp.c0.2, by simp [slV], by decide, by decide, fp.s1.1, (f.S true).length, fp.s1.2, by simp [slV], ?_⟩
  refine call_begin I (by omega) D true (cv := fp.c0) (sv := fp.s1) rfl rfl fun m5 w73 hm5 hsz D => ⟨true, rfl, hsz, hfacts D, _, hfacts D, fun _ h => h, ?_⟩
  rw [if_pos (by decide)]
  refine ⟨by decide, by decide, some ⟨f.b false, 0, none⟩, by simp, ?_⟩
  refine (c_Idle (f.b false) (f.x false)).call (fdOt false D) trivial fun _ m6 w81 hk hm6 _ D => ⟨_, rfl, hk.size, ?_⟩
  have D2 : Ctx [] (memOf w) w w81 [] m6 (fdAs fb f fp ++ []) := D.pm [1, 0, 2, 3, 4, 5, 6, 7] rfl
  refine ⟨hfacts D2, _, hfacts D2, fun _ h => h, ?_⟩
  rw [(hall false).1, if_pos (by decide)]
  refine ⟨by decide, by decide, some ⟨f.b true, 0, none⟩, by simp, ?_⟩
  refine (c_Idle (f.b true) (f.x true)).call (fdOt true D2) trivial fun _ m7 w87 hk hm7 _ D => ⟨_, rfl, hk.size, ?_⟩
  have D3 : Ctx [] (memOf w) w w87 [] m7 (fdAs fb f fp ++ []) := D.pm [1, 2, 0, 3, 4, 5, 6, 7] rfl
  refine ⟨hfacts D3, ?_⟩
  rw [(hall true).1]
  exact ⟨rfl, D3.at_⟩
end Go.Proofs
