import Derived.Test.YtmfmihkjkgifiaaU10k
import Derived.Test.YtmfmihkjkgifiaaU10g
import Derived.Test.YtmfmihkjkgifiaaV10e
import Derived.Test.YtmfmihkjkgifiaaXPm
set_option linter.unusedVariables false
set_option linter.unusedSimpArgs false
set_option maxRecDepth 10000
namespace Go.Proofs
open Go X RowKit
/-! ### the field's memory -/
structure Fp where (f s0 s1 c0 c1 : Option Addr × Nat)
def strV (b : List UInt8) : Value := .string (toBA b)
theorem strV_one (l : Bys) : ∀ u ∈ l.map strV, oneC u = true := by
  intro u hu; simp only [List.mem_map] at hu; obtain ⟨b, _, rfl⟩ := hu; rfl
abbrev strA (p : Option Addr × Nat) (l : Bys) : Asn := slA (.slice p.1 l.length p.2) l.length (l.map strV) 9 1
abbrev lpV (b : Nat) : Value := .pointer (some ⟨b, 0, none⟩)
@[reducible] def rowV (b0 b1 : Nat) (fl s0 s1 c0 c1 : Value) (now : Int) : List Value := [lpV b0, lpV b1, fl, s0, s1, c0, c1, .int .i64 now]
abbrev slV (p : Option Addr × Nat) (n : Nat) : Value := .slice p.1 n p.2
abbrev Fd.row (f : Fd) (p : Fp) : List Value := rowV (f.b false) (f.b true) (slV p.f f.fly.length) (slV p.s0 (f.S false).length) (slV p.s1 (f.S true).length) (slV p.c0 (f.C false).length) (slV p.c1 (f.C true).length) f.now
abbrev fdAs (fb : Nat) (f : Fd) (p : Fp) : List Asn := [blk fb (f.row p) 69, lkA (f.b false) (f.x false), lkA (f.b true) (f.x true), pksA p.f.1 p.f.2 f.fly, strA p.s0 (f.S false), strA p.s1 (f.S true), strA p.c0 (f.C false), strA p.c1 (f.C true)]
def fdA (fb : Nat) (f : Fd) : Asn := Asn.ex fun p => Asn.all (fdAs fb f p)
def FdM (m : Mem) (f : Fd) : Prop := (∀ t, LkM m (f.x t)) ∧ ∀ p ∈ f.fly, BrM m p.b
theorem FdM.mono {m m' : Mem} {f : Fd} (h : FdM m f) (hm : m.le m') : FdM m' f := ⟨fun t => (h.1 t).mono hm, fun p hp => (h.2 p hp).mono hm⟩
section
variable {F0 : List Nat} {m0 : Mem} {w0 w : World} {L : List Nat} {m : Mem} {As : List Asn}
theorem fdO {fb : Nat} {f : Fd} (C : Ctx F0 m0 w0 w L m (fdA fb f :: As)) : ∃ p, Ctx F0 m0 w0 w L m (fdAs fb f p ++ As) := by
  obtain ⟨p, C⟩ := C.ex
  exact ⟨p, C.all⟩
theorem fdI {fb : Nat} {f : Fd} (p : Fp) (C : Ctx F0 m0 w0 w L m (fdAs fb f p ++ As)) : Ctx F0 m0 w0 w L m (fdA fb f :: As) := Ctx.exI p (Ctx.allI C)
end
theorem c_beginning (a b : Bys) (p q : Option Addr × Nat) (ha : a.length ≤ 1000000) :
    Ctr Try.prog 27 #[slV p a.length, slV q b.length] noMem [strA p a, strA q b] (fun i : {v : Bool // ((∀ i, i < a.length → a[i]? = b[i]?) ∧ a.length ≤ b.length → v = true)} => .bool i.1) (fun _ _ => True) (fun _ => [strA p a, strA q b]) := by
  refine Ctr.mk fun w F m C _ => x_gemotlaw10_beginning _ _ _ _ _ _ w _ ?_
  refine ⟨fun n w' _ => ∃ j : Nat, n = j ∧ j ≤ a.length ∧ Ctx F m w w' [] m [strA p a, strA q b], fun n _ => (a.length - n).toNat, ⟨0, rfl, by omega, C⟩, ?_⟩
  rintro n w4 L5 _ ⟨j, rfl, hj, D⟩
  by_cases h1 : j < a.length ∧ j < b.length
  · obtain ⟨h1, h2⟩ := h1
    rw [if_pos (by simpa using ⟨h1, h2⟩)]
    obtain ⟨pa, hpa⟩ := slice_some D (by intro h; rw [List.map_eq_nil_iff] at h; rw [h] at h1; simp at h1)
    obtain ⟨qa, hqa⟩ := slice_some D.swap (by intro h; rw [List.map_eq_nil_iff] at h; rw [h] at h2; simp at h2)
    have ca := (D.slCells.1 pa hpa).1 j (strV a[j]) (by simp [h1])
    have cb := (D.swap.slCells.1 qa hqa).1 j (strV b[j]) (by simp [h2])
    refine ⟨by omega, by simpa using h1, ?_⟩
    rw [hpa, onSome_some]
    refine ⟨_, by simpa [strV] using ca, by omega, by simpa using h2, ?_⟩
    rw [hqa, onSome_some]
    refine ⟨_, by simpa [strV] using cb, ?_⟩
    by_cases h3 : a[j] = b[j]
    · rw [if_neg (by rw [toBA_beq]; simp [h3])]
      intro w10 h10
      have e : IntKind.wrap .i64 ((j : Int) + 1) = ((j + 1 : Nat) : Int) := by rw [w_i64 (by omega) (by omega)]; omega
      rw [e]
      exact ⟨⟨j + 1, rfl, h1, D.hid0 h10⟩, Nat.le_of_eq (by show ((a.length : Int) - ((j + 1 : Nat) : Int)).toNat + 1 = ((a.length : Int) - (j : Int)).toNat; omega)⟩
    · rw [if_pos (by rw [toBA_beq]; simp [h3])]
      intro w11 h11
      refine Ctr.ret ⟨false, fun h => absurd (h.1 j h1) ?_⟩ rfl trivial (D.hid0 h11)
      rw [List.getElem?_eq_getElem h1, List.getElem?_eq_getElem h2]; simpa using h3
  · rw [if_neg (by simpa using h1)]
    exact Ctr.ret ⟨decide (((a.length : Nat) : Int) ≤ ((b.length : Nat) : Int)), fun h => by simpa using h.2⟩ rfl trivial (D.noL)
theorem comeF_len : ∀ (n : Nat) (want : Int) (E : List (Int × Br)), (comeF n want E).1.length ≤ n
  | 0, _, _ => by simp [comeF]
  | n + 1, want, E => by
    unfold comeF
    split
    · simp
    · simp only [List.length_cons]; have := comeF_len n (IntKind.wrap .u64 (want + 1)) (X.mdel want E); omega
theorem heard_len (x : Lk) (p : Pk) (nb : Br) : (x.heard p nb).1.length ≤ x.E.length + 1 := by
  unfold Lk.heard
  split
  · simp
  split
  · simp
  split
  · simp only [List.length_cons, Lk.comes]
    have := comeF_len (x.owes p.ack).E.length (IntKind.wrap .u64 ((x.owes p.ack).want + 1)) (x.owes p.ack).E
    have h2 : (x.owes p.ack).E.length = x.E.length := by show (x.acked p.ack).E.length = _; rw [acked_E]
    omega
  split <;> simp
theorem c_hear_true (fb : Nat) (f : Fd) (p : Pk) (hW : (f.x true).W.length ≤ 32) (hE : (f.x true).E.length ≤ 100000) (hC : (f.C true).length ≤ 1000000) (hp : p.tn = nodeN true) :
    Ctr Try.prog 28 #[.pointer (some ⟨fb, 0, none⟩), p.V] (fun m => BrM m p.b ∧ FdM m f) [fdA fb f] (fun _ : Br => .tuple #[]) (fun nb m => nb.bs = p.b.bs ∧ FdM m (f.heard true p nb)) (fun nb => [fdA fb (f.heard true p nb)]) := by
  refine Ctr.mk fun w F m C hpre => x_gemotlaw10_field_hear _ _ _ _ _ _ _ _ _ _ _ w _ ?_
  obtain ⟨hb, hM⟩ := hpre
  rw [if_pos (by rw [hp]; decide)]
  obtain ⟨fp, C⟩ := fdO C
  refine ⟨[(⟨fb, 1, none⟩, [lpV (f.b true)])], C.blkFact1 1 _ rfl (facts_nil _ _), by decide, by decide, some ⟨f.b true, 0, none⟩, by simp [Addr.add_mid], fun w3 L4 h3 g3 => ?_⟩
  replace C := (C.hidL h3 g3).pm [2, 0, 1, 3, 4, 5, 6, 7] rfl
  simp only [sel, nth, List.append_nil, List.cons_append, List.nil_append, fdAs] at C
  refine (c_Hear (f.b true) (f.x true) p hW (by omega)).call C ⟨hb, hM.1 true⟩ fun i m1 w6 hk hm hpost C => ⟨_, _, _, rfl, hk, ?_⟩
  obtain ⟨nb, bq, bc⟩ := i
  dsimp only at hpost C ⊢
  obtain ⟨hn1, hn2, hn3⟩ := hpost
  have hll : ((f.x true).heard p nb).1.length ≤ 200000 := by
    have := heard_len (f.x true) p nb; omega
  generalize hl : ((f.x true).heard p nb).1 = l at C hn2 hll ⊢
  generalize hz : ((f.x true).heard p nb).2 = z at C hn3 ⊢
  have hM2 : FdM m1 (f.heard true p nb) := ⟨all_b true (by simp only [Fd.heard, up_same, hz]; exact hn3) (by simp only [Fd.heard, up_not]; exact (hM.1 _).mono hm), fun p hp => (hM.2 p hp).mono hm⟩
  let As : Option Addr × Nat → Nat → List Asn := fun y j => [blk fb (rowV (f.b false) (f.b true) (slV fp.f f.fly.length) (slV fp.s0 (f.S false).length) (slV fp.s1 (f.S true).length) (slV fp.c0 (f.C false).length) (slV y ((f.C true).length + j)) f.now) 69, bodsA bq bc l, strA y (f.C true ++ (l.take j).map Br.bs), lkA (f.b true) z, lkA (f.b false) (f.x false), pksA fp.f.1 fp.f.2 f.fly, strA fp.s0 (f.S false), strA fp.s1 (f.S true), strA fp.c0 (f.C false)]
  have C0 : Ctx F m w w6 L4 m1 (As fp.c1 0) := by
    have C := C.pm [2, 1, 8, 0, 3, 4, 5, 6, 7] rfl
    simpa [sel, nth, As, fdAs] using C
  refine ⟨fun n w' L' => ∃ (j : Nat) (y : Option Addr × Nat), n = j ∧ j ≤ l.length ∧ Ctx F m w w' L' m1 (As y j), fun n _ => (l.length - n).toNat, ⟨0, fp.c1, rfl, by omega, C0⟩, ?_⟩
  rintro n w13 L14 _ ⟨j, y, rfl, hj, D⟩
  by_cases h1 : j < l.length
  · rw [if_pos (by simpa using h1)]
    obtain ⟨ba, rfl⟩ := slice_some D.swap (body_ne (by omega))
    have hf : ∀ {w' L' m'} {As' : List Asn}, Ctx F m w w' L' m' (blk fb (rowV (f.b false) (f.b true) (slV fp.f f.fly.length) (slV fp.s0 (f.S false).length) (slV fp.s1 (f.S true).length) (slV fp.c0 (f.C false).length) (slV y ((f.C true).length + j)) f.now) 69 :: bodsA (some ba) bc l :: As') → FactsW [(⟨fb, 6, none⟩, [slV y ((f.C true).length + j)]), (ba.add j, [(l[j]).V])] w' L' := fun D =>
      D.blkFact1 6 _ rfl (Ctx.slFact D.swap j _ [] (fun i u h => by cases i with
        | zero => simpa [h1] using h
        | succ i => simp at h) (facts_nil _ _))
    refine ⟨_, hf D, by decide, by decide, y.1, (f.C true).length + j, y.2, by simp [slV], by omega, by simpa using h1, ?_⟩
    rw [onSome_some]
    refine ⟨(l[j]).q, (l[j]).bs.length, (l[j]).c, by simp, fun w23 L24 h23 g23 => ?_⟩
    replace D := D.hidL h23 g23
    refine ⟨_, w23, run_body D (hn2 _ (List.getElem_mem h1)), kept_refl _ _, hf D, ?_⟩
    have D1 := (D.alloc [strV (l[j]).bs] 9).pm [1, 2, 3, 0, 4, 5, 6, 7, 8, 9] rfl
    simp only [sel, nth, List.append_nil, List.cons_append, List.nil_append, As] at D1
    have hcl : Cells (w23.alloc (.cells [strV (l[j]).bs].toArray 9)) ⟨w23.heap.size, 0, none⟩ [strV (l[j]).bs] := ((D.alloc [strV (l[j]).bs] 9)).blkCells fun j v e => by rw [Nat.zero_add]; exact e
    refine ⟨hf D1, ?_⟩
    have D2 := D1.pm [2, 0, 1, 4, 5, 6, 7, 8, 9, 3] rfl
    simp only [sel, nth, List.append_nil, List.cons_append, List.nil_append] at D2
    have hlen : (f.C true ++ (l.take j).map Br.bs).length = (f.C true).length + j := by simp; omega
    obtain ⟨q2, c2, w26, hr, hkk, D3⟩ := D2.app (P := Try.prog) (bytes := 16) (t := 66) (t2 := 66) 66 (by kernel_rfl) (.some ⟨w23.heap.size, 0, none⟩ 1 1 [strV (l[j]).bs] rfl hcl) (by rw [hlen]; omega) (strV_one [(l[j]).bs])
    rw [hlen] at hr D3
    have D4 := D3.pm [9, 1, 2, 0, 3, 4, 5, 6, 7, 8] rfl
    simp only [sel, nth, List.append_nil, List.cons_append, List.nil_append] at D4
    have D5 := D4.drop
    refine ⟨q2, (f.C true).length + j + 1, c2, w26, hr, hkk, hf D5, by decide, by decide, rfl, D5.there 6 1 (by simp), D5.blkAt.2, rfl, ?_⟩
    have D6 := D5.store 6 [slV (q2, c2) ((f.C true).length + j + 1)] (by simp)
    have e : IntKind.wrap .i64 ((j : Int) + 1) = ((j + 1 : Nat) : Int) := by rw [w_i64 (by omega) (by omega)]; omega
    rw [e]
    refine ⟨⟨j + 1, (q2, c2), rfl, h1, ?_⟩, Nat.le_of_eq (by show ((l.length : Int) - ((j + 1 : Nat) : Int)).toNat + 1 = ((l.length : Int) - (j : Int)).toNat; omega)⟩
    have e1 : (f.C true ++ (l.take (j + 1)).map Br.bs).length = (f.C true).length + j + 1 := by simp; omega
    have e2 : (f.C true ++ (l.take (j + 1)).map Br.bs).map strV = (f.C true ++ (l.take j).map Br.bs).map strV ++ [strV (l[j]).bs] := by
      rw [List.take_succ_eq_append_getElem h1, List.map_append, List.map_append, List.map_append, List.map_append, List.append_assoc]; rfl
    simp only [As, strA]
    rw [e1, e2]
    exact D6
  · rw [if_neg (by simpa using h1)]
    have hjl : j = l.length := by omega
    refine ⟨nb, m1, L14, rfl, ⟨hn1, hM2⟩, fdI { fp with c1 := y } ?_⟩
    have D := D.pk [0, 4, 3, 5, 6, 7, 8, 2] [1] rfl
    subst hjl
    simp only [sel, nth, List.append_nil, List.cons_append, List.nil_append, As, List.take_length] at D
    simp only [fdAs, Fd.row, Fd.heard, up, hl, hz]
    simpa using D
theorem c_hear_false (fb : Nat) (f : Fd) (p : Pk) (hW : (f.x false).W.length ≤ 32) (hE : (f.x false).E.length ≤ 100000) (hC : (f.C false).length ≤ 1000000) (hp : p.tn = nodeN false) :
    Ctr Try.prog 28 #[.pointer (some ⟨fb, 0, none⟩), p.V] (fun m => BrM m p.b ∧ FdM m f) [fdA fb f] (fun _ : Br => .tuple #[]) (fun nb m => nb.bs = p.b.bs ∧ FdM m (f.heard false p nb)) (fun nb => [fdA fb (f.heard false p nb)]) := by
  refine Ctr.mk fun w F m C hpre => x_gemotlaw10_field_hear _ _ _ _ _ _ _ _ _ _ _ w _ ?_
  obtain ⟨hb, hM⟩ := hpre
  rw [if_neg (by rw [hp]; decide)]
  obtain ⟨fp, C⟩ := fdO C
  refine ⟨[(⟨fb, 0, none⟩, [lpV (f.b false)])], C.blkFact1 0 _ rfl (facts_nil _ _), by decide, by decide, some ⟨f.b false, 0, none⟩, by simp [Addr.add_mid], fun w3 L4 h3 g3 => ?_⟩
  replace C := (C.hidL h3 g3).pm [1, 0, 2, 3, 4, 5, 6, 7] rfl
  simp only [sel, nth, List.append_nil, List.cons_append, List.nil_append, fdAs] at C
  refine (c_Hear (f.b false) (f.x false) p hW (by omega)).call C ⟨hb, hM.1 false⟩ fun i m1 w6 hk hm hpost C => ⟨_, _, _, rfl, hk, ?_⟩
  obtain ⟨nb, bq, bc⟩ := i
  dsimp only at hpost C ⊢
  obtain ⟨hn1, hn2, hn3⟩ := hpost
  have hll : ((f.x false).heard p nb).1.length ≤ 200000 := by
    have := heard_len (f.x false) p nb; omega
  generalize hl : ((f.x false).heard p nb).1 = l at C hn2 hll ⊢
  generalize hz : ((f.x false).heard p nb).2 = z at C hn3 ⊢
  have hM2 : FdM m1 (f.heard false p nb) := ⟨all_b false (by simp only [Fd.heard, up_same, hz]; exact hn3) (by simp only [Fd.heard, up_not]; exact (hM.1 _).mono hm), fun p hp => (hM.2 p hp).mono hm⟩
  let As : Option Addr × Nat → Nat → List Asn := fun y j => [blk fb (rowV (f.b false) (f.b true) (slV fp.f f.fly.length) (slV fp.s0 (f.S false).length) (slV fp.s1 (f.S true).length) (slV y ((f.C false).length + j)) (slV fp.c1 (f.C true).length) f.now) 69, bodsA bq bc l, strA y (f.C false ++ (l.take j).map Br.bs), lkA (f.b false) z, lkA (f.b true) (f.x true), pksA fp.f.1 fp.f.2 f.fly, strA fp.s0 (f.S false), strA fp.s1 (f.S true), strA fp.c1 (f.C true)]
  have C0 : Ctx F m w w6 L4 m1 (As fp.c0 0) := by
    have C := C.pm [2, 1, 7, 0, 3, 4, 5, 6, 8] rfl
    simpa [sel, nth, As, fdAs] using C
  refine ⟨fun n w' L' => ∃ (j : Nat) (y : Option Addr × Nat), n = j ∧ j ≤ l.length ∧ Ctx F m w w' L' m1 (As y j), fun n _ => (l.length - n).toNat, ⟨0, fp.c0, rfl, by omega, C0⟩, ?_⟩
  rintro n w13 L14 _ ⟨j, y, rfl, hj, D⟩
  by_cases h1 : j < l.length
  · rw [if_pos (by simpa using h1)]
    obtain ⟨ba, rfl⟩ := slice_some D.swap (body_ne (by omega))
    have hf : ∀ {w' L' m'} {As' : List Asn}, Ctx F m w w' L' m' (blk fb (rowV (f.b false) (f.b true) (slV fp.f f.fly.length) (slV fp.s0 (f.S false).length) (slV fp.s1 (f.S true).length) (slV y ((f.C false).length + j)) (slV fp.c1 (f.C true).length) f.now) 69 :: bodsA (some ba) bc l :: As') → FactsW [(⟨fb, 5, none⟩, [slV y ((f.C false).length + j)]), (ba.add j, [(l[j]).V])] w' L' := fun D =>
      D.blkFact1 5 _ rfl (Ctx.slFact D.swap j _ [] (fun i u h => by cases i with
        | zero => simpa [h1] using h
        | succ i => simp at h) (facts_nil _ _))
    refine ⟨_, hf D, by decide, by decide, y.1, (f.C false).length + j, y.2, by simp [slV], by omega, by simpa using h1, ?_⟩
    rw [onSome_some]
    refine ⟨(l[j]).q, (l[j]).bs.length, (l[j]).c, by simp, fun w23 L24 h23 g23 => ?_⟩
    replace D := D.hidL h23 g23
    refine ⟨_, w23, run_body D (hn2 _ (List.getElem_mem h1)), kept_refl _ _, hf D, ?_⟩
    have D1 := (D.alloc [strV (l[j]).bs] 9).pm [1, 2, 3, 0, 4, 5, 6, 7, 8, 9] rfl
    simp only [sel, nth, List.append_nil, List.cons_append, List.nil_append, As] at D1
    have hcl : Cells (w23.alloc (.cells [strV (l[j]).bs].toArray 9)) ⟨w23.heap.size, 0, none⟩ [strV (l[j]).bs] := ((D.alloc [strV (l[j]).bs] 9)).blkCells fun j v e => by rw [Nat.zero_add]; exact e
    refine ⟨hf D1, ?_⟩
    have D2 := D1.pm [2, 0, 1, 4, 5, 6, 7, 8, 9, 3] rfl
    simp only [sel, nth, List.append_nil, List.cons_append, List.nil_append] at D2
    have hlen : (f.C false ++ (l.take j).map Br.bs).length = (f.C false).length + j := by simp; omega
    obtain ⟨q2, c2, w26, hr, hkk, D3⟩ := D2.app (P := Try.prog) (bytes := 16) (t := 66) (t2 := 66) 66 (by kernel_rfl) (.some ⟨w23.heap.size, 0, none⟩ 1 1 [strV (l[j]).bs] rfl hcl) (by rw [hlen]; omega) (strV_one [(l[j]).bs])
    rw [hlen] at hr D3
    have D4 := D3.pm [9, 1, 2, 0, 3, 4, 5, 6, 7, 8] rfl
    simp only [sel, nth, List.append_nil, List.cons_append, List.nil_append] at D4
    have D5 := D4.drop
    refine ⟨q2, (f.C false).length + j + 1, c2, w26, hr, hkk, hf D5, by decide, by decide, rfl, D5.there 5 1 (by simp), D5.blkAt.2, rfl, ?_⟩
    have D6 := D5.store 5 [slV (q2, c2) ((f.C false).length + j + 1)] (by simp)
    have e : IntKind.wrap .i64 ((j : Int) + 1) = ((j + 1 : Nat) : Int) := by rw [w_i64 (by omega) (by omega)]; omega
    rw [e]
    refine ⟨⟨j + 1, (q2, c2), rfl, h1, ?_⟩, Nat.le_of_eq (by show ((l.length : Int) - ((j + 1 : Nat) : Int)).toNat + 1 = ((l.length : Int) - (j : Int)).toNat; omega)⟩
    have e1 : (f.C false ++ (l.take (j + 1)).map Br.bs).length = (f.C false).length + j + 1 := by simp; omega
    have e2 : (f.C false ++ (l.take (j + 1)).map Br.bs).map strV = (f.C false ++ (l.take j).map Br.bs).map strV ++ [strV (l[j]).bs] := by
      rw [List.take_succ_eq_append_getElem h1, List.map_append, List.map_append, List.map_append, List.map_append, List.append_assoc]; rfl
    simp only [As, strA]
    rw [e1, e2]
    exact D6
  · rw [if_neg (by simpa using h1)]
    have hjl : j = l.length := by omega
    refine ⟨nb, m1, L14, rfl, ⟨hn1, hM2⟩, fdI { fp with c0 := y } ?_⟩
    have D := D.pk [0, 3, 4, 5, 6, 7, 2, 8] [1] rfl
    subst hjl
    simp only [sel, nth, List.append_nil, List.cons_append, List.nil_append, As, List.take_length] at D
    simp only [fdAs, Fd.row, Fd.heard, up, hl, hz]
    simpa using D
end Go.Proofs
