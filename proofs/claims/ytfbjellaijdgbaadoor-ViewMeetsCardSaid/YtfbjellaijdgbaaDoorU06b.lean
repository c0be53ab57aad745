import Derived.Test.YtfbjellaijdgbaaDoorU06a
import Derived.Test.YtfbjellaijdgbaaDoorV06n
set_option linter.unusedVariables false
set_option linter.unusedSimpArgs false
set_option maxRecDepth 10000
namespace Go.Proofs
open Go X RowKit
abbrev prB (z : Nat) (p : Pr) : Asn := blk z p.row 48
abbrev prS (q : Sl) (l : List Pr) : Asn := slA (slV q l.length) l.length (l.flatMap Pr.row) 48 2
def idxN (l : List Pr) (n : Int) : Option Nat := l.findIdx? fun x => x.n == n
def idxI (l : List Pr) (n : Int) : Int := match idxN l n with | some i => (i : Int) | none => -1
def takeF (l : List Pr) (p : Pr) : List Pr := if p.ok then (match idxN l p.n with | some i => l.set i p | none => l ++ [p]) else l
theorem c_take1 (x p : Pr) (z : Nat) : Ctr Tryd.prog 44 #[.agg x.row.toArray, .pointer (some ⟨z, 0, none⟩)] noMem [prB z p] (fun _ : Unit => .bool (x.n == p.n)) (fun _ _ => True) (fun _ => [prB z p]) := by
  refine Ctr.mk fun w F m C _ => x_take1 _ _ _ w _ ⟨p.n, C.blkCell (j := 0) rfl, fun w2 h2 => ?_⟩
  exact Ctr.ret (L := []) () rfl trivial (C.hid0 h2)
theorem c_IndexFunc (q : Sl) (l : List Pr) (p : Pr) (z : Nat) (hl : l.length ≤ 1000000) : Ctr Tryd.prog 43 #[slV q l.length, .func (.func 44) #[] #[.pointer (some ⟨z, 0, none⟩)]] noMem [prB z p, prS q l] (fun _ : Unit => .int .i64 (idxI l p.n)) (fun _ _ => True) (fun _ => [prB z p, prS q l]) := by
  refine Ctr.mk fun w F m C _ => x_IndexFunc _ _ _ _ w _ ?_
  refine ⟨fun i w' _ => ∃ (j : Nat) (m' : Mem), i = j ∧ j ≤ l.length ∧ (∀ x ∈ l.take j, (x.n == p.n) = false) ∧ m.le m' ∧ Ctx F m w w' [] m' [prB z p, prS q l], fun i _ => ((l.length : Int) - i).toNat, ⟨0, m, rfl, by omega, by simp, Mem.le_refl _, C⟩, ?_⟩
  clear C
  rintro i w4 L5 _ ⟨j, m', rfl, hj, hn, hm, D⟩
  by_cases hjl : j < l.length
  rotate_left
  · rw [if_neg (by simpa using hjl)]
    have hj2 : j = l.length := by omega
    rw [hj2, List.take_length] at hn
    have e : idxI l p.n = -1 := by
      have : idxN l p.n = none := List.findIdx?_eq_none_iff.2 hn
      rw [idxI, this]
    exact Ctr.ret (L := []) () (by rw [e]) trivial D
  rw [if_pos (by simpa using hjl)]
  refine ⟨by omega, by simpa using hjl, ?_⟩
  have D1 := D.swap
  have hc := D1.slCells
  have hne : l.flatMap Pr.row ≠ [] := fun e0 => by
    have h := congrArg List.length e0
    rw [flat_len pr_len] at h
    simp at h; omega
  cases hq : q.1 with
  | none => exact absurd (hc.2 hq) hne
  | some a =>
  rw [onSome_some, Int.toNat_natCast]
  have hcl := cells_elem pr_len (hc.1 a hq).1 j hjl
  refine ⟨_, _, hcl, ?_⟩
  refine (c_take1 l[j] p z).call (As := [prS q l]) D trivial fun _ m2 w10 hk hm2 _ D => ⟨_, rfl, hk.size, ?_⟩
  by_cases he : l[j].n == p.n
  · rw [if_pos he]
    have e : idxN l p.n = some j := by
      rw [idxN, List.findIdx?_eq_some_iff_getElem]
      refine ⟨hjl, he, fun k hk => ?_⟩
      have := hn l[k] (List.mem_take_iff_getElem.2 ⟨k, by omega, rfl⟩)
      simpa using this
    exact Ctr.ret (L := []) () (by rw [idxI, e]) trivial D
  · rw [if_neg he]
    have e : IntKind.wrap .i64 ((j : Int) + 1) = ((j + 1 : Nat) : Int) := by rw [w_i64 (by omega) (by omega)]; omega
    rw [e]
    refine ⟨⟨j + 1, m2, rfl, hjl, fun x hx => ?_, hm.le_trans hm2, D⟩, Nat.le_of_eq (by show ((l.length : Int) - ((j + 1 : Nat) : Int)).toNat + 1 = ((l.length : Int) - (j : Int)).toNat; omega)⟩
    rw [List.take_succ_eq_append_getElem hjl, List.mem_append, List.mem_singleton] at hx
    rcases hx with hx | rfl
    · exact hn x hx
    · simpa using he
theorem c_take (q : Sl) (l : List Pr) (p : Pr) (hl : l.length ≤ 100000) : Ctr Tryd.prog 25 #[slV q l.length, .agg p.row.toArray] noMem [prS q l] (fun r : Sl => slV r (takeF l p).length) (fun _ _ => True) (fun r => [prS r (takeF l p)]) := by
  refine Ctr.mk fun w F m C _ => x_take _ _ _ _ _ w _ ?_
  have C1 := C.alloc p.row 48
  refine ⟨_, _, C1.blkCells (o := 0) (fun k v e => by simpa using e), ?_⟩
  refine C1.gives (c_pRight p) fun w4 k4 C2 => ⟨_, rfl, k4.size, ?_⟩
  cases hok : p.ok with
  | false =>
    rw [if_pos (by decide)]
    have e : takeF l p = l := by rw [takeF, hok]; rfl
    exact Ctr.ret (r := fun r : Sl => slV r (takeF l p).length) (Bs := fun r : Sl => [prS r (takeF l p)]) (L := []) q (by rw [e]) trivial (by rw [e]; exact C2.drop)
  | true =>
  rw [if_neg (by decide)]
  refine (c_IndexFunc q l p w.heap.size (by omega)).call (As := []) C2 trivial fun _ m2 w7 hk hm2 _ C3 => ⟨_, rfl, hk.size, ?_⟩
  cases hi : idxN l p.n with
  | none =>
    have e : takeF l p = l ++ [p] := by rw [takeF, hok, hi]; rfl
    rw [idxI, hi, if_pos (by decide)]
    refine ⟨_, _, C3.blkCells (o := 0) (fun k v e => by simpa using e), ?_⟩
    have D1 := (C3.drop.alloc p.row 48).swap
    have hcl : Cells _ ⟨w7.heap.size, 0, none⟩ p.row := (C3.drop.alloc p.row 48).blkCells (o := 0) fun k v e => by simpa using e
    obtain ⟨q2, c2, w25, hr, hkk, D2⟩ := D1.app2 (P := Tryd.prog) (bytes := 4) (t := 28) (t2 := 28) 28 (by kernel_rfl) (.some ⟨w7.heap.size, 0, none⟩ 1 1 p.row rfl hcl) (by unfold maxLen; omega) (by omega) (pr_one _)
    refine ⟨q2, l.length + 1, c2, w25, hr, hkk.size, ?_⟩
    refine Ctr.ret (m' := m2) (L := []) (r := fun r : Sl => slV r (takeF l p).length) (Bs := fun r : Sl => [prS r (takeF l p)]) (q2, c2) (by rw [e]; simp) trivial ?_
    rw [e]
    have e2 : (l ++ [p]).flatMap Pr.row = l.flatMap Pr.row ++ p.row := by simp [List.flatMap_append]
    rw [prS, e2, List.length_append]
    exact Ctx.noL (D2.pk [0] [1] rfl)
  | some i =>
    have e : takeF l p = l.set i p := by rw [takeF, hok, hi]; rfl
    have hil : i < l.length := (List.findIdx?_eq_some_iff_getElem.1 hi).1
    have eI : idxI l p.n = (i : Int) := by rw [idxI, hi]
    rw [eI, if_neg (by simp)]
    refine ⟨_, _, C3.blkCells (o := 0) (fun k v e => by simpa using e), by omega, by simpa using hil, ?_⟩
    have hfl : (l.flatMap Pr.row).length = l.length * 2 := flat_len pr_len l
    obtain ⟨a, ha, hsp, hth, -, D⟩ := C3.drop.slPut (i * 2) (.int .u8 p.n) [.int .u16 p.l] (by rw [hfl]; show i * 2 + 2 ≤ _; omega)
    rw [ha, onSome_some]
    simp only [Int.toNat_natCast]
    have hsp2 : (a.add (i * 2)).spot = none := by obtain ⟨b, o, s⟩ := a; simp only at hsp; subst hsp; rw [Addr.add_mid]
    have hblk : (a.add (i * 2)).block = a.block := by obtain ⟨b, o, s⟩ := a; simp only at hsp; subst hsp; rw [Addr.add_mid]
    have hoff : (a.add (i * 2)).off = a.off + i * 2 := by obtain ⟨b, o, s⟩ := a; simp only at hsp; subst hsp; rw [Addr.add_mid]
    rw [hsp2, hblk, hoff]
    refine ⟨rfl, hth, ?_⟩
    have hput := flat_put pr_len (vs := [.int .u8 p.n, .int .u16 p.l]) (o := 0) (b := p) l i hil (by simp) rfl
    rw [Nat.add_zero] at hput
    rw [hput] at D
    refine Ctr.ret (m' := m2) (L := []) (r := fun r : Sl => slV r (takeF l p).length) (Bs := fun r : Sl => [prS r (takeF l p)]) q (by rw [e, List.length_set, slV, ha]) trivial ?_
    rw [e, prS, List.length_set]
    rw [← ha] at D
    exact D
end Go.Proofs
