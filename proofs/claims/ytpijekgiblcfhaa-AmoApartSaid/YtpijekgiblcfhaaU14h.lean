import Derived.Test.YtpijekgiblcfhaaU14g
import Derived.Test.YtpijekgiblcfhaaU14e
import Derived.Test.YtpijekgiblcfhaaV14d
import Derived.Test.YtpijekgiblcfhaaXSub
set_option linter.unusedVariables false
set_option linter.unusedSimpArgs false
set_option maxRecDepth 10000
namespace Go.Proofs
open Go X RowKit
/-! ### the document's table -/
@[reducible] def Rw.row (r : Rw) : List Value := [.int .u8 r.id.n, .int .u16 r.id.l, .int .u32 r.id.s, .int .u8 r.id.d, .int .u8 r.id.g0, .int .u8 r.id.i0, .int .u8 r.id.g1, .int .u8 r.id.i1, .int .u8 r.id.g2, .int .u8 r.id.i2, .bool r.ended, .int .u8 r.code, .string r.val]
theorem rw_len (r : Rw) : r.row.length = 13 := rfl
abbrev Fr := (Int × Int) × Int
@[reducible] def frow (f : Fr) : List Value := [.int .u8 f.1.1, .int .u16 f.1.2, .int .u32 f.2]
theorem fr_len (f : Fr) : (frow f).length = 3 := rfl
structure Rt where (win : Int) (L : List Rw) (F : List Fr)
abbrev Sl := Option Addr × Nat
abbrev slV (p : Sl) (n : Nat) : Value := .slice p.1 n p.2
abbrev rwsA (p : Sl) (L : List Rw) : Asn := slA (slV p L.length) L.length (L.flatMap Rw.row) 94 13
abbrev frsA (p : Sl) (F : List Fr) : Asn := slA (slV p F.length) F.length (F.flatMap frow) 96 3
@[reducible] def Rt.cells (r : Rt) (p q : Sl) : List Value := [.int .i64 r.win, slV p r.L.length, slV q r.F.length]
abbrev rtAs (b : Nat) (r : Rt) (p q : Sl) : List Asn := [blk b (r.cells p q) 82, rwsA p r.L, frsA q r.F]
def rtA (b : Nat) (r : Rt) : Asn := Asn.ex fun y : Sl × Sl => Asn.all (rtAs b r y.1 y.2)
section
variable {F0 : List Nat} {m0 : Mem} {w0 w : World} {L : List Nat} {m : Mem} {As : List Asn}
theorem rtO {b : Nat} {r : Rt} (C : Ctx F0 m0 w0 w L m (rtA b r :: As)) : ∃ p q, Ctx F0 m0 w0 w L m (rtAs b r p q ++ As) := by
  obtain ⟨⟨p, q⟩, C⟩ := C.ex
  exact ⟨p, q, C.all⟩
theorem rtI {b : Nat} {r : Rt} (p q : Sl) (C : Ctx F0 m0 w0 w L m (rtAs b r p q ++ As)) : Ctx F0 m0 w0 w L m (rtA b r :: As) := Ctx.exI (p, q) (Ctx.allI C)
/-- an element of an owned slice -/
theorem sl_elem {α : Type} {f : α → List Value} {k : Nat} (hk : ∀ a, (f a).length = k) (k0 : 0 < k) {l : List α} {p : Sl} {ty : TypeId} (C : Ctx F0 m0 w0 w L m (slA (slV p l.length) l.length (l.flatMap f) ty k :: As)) {j : Nat} (hj : j < l.length) :
    ∃ a, p.1 = some a ∧ Cells w (a.add (j * k)) (f l[j]) ∧ (a.add (j * k)).block ∉ L := by
  have hc := C.slCells
  have hne : l.flatMap f ≠ [] := fun e => by
    have := flat_len hk l
    rw [e] at this
    have h1 : 0 < l.length * k := Nat.mul_pos (by omega) k0
    simp at this; omega
  cases hp : p.1 with
  | none => exact absurd (hc.2 hp) hne
  | some a =>
    obtain ⟨h1, h2⟩ := hc.1 a hp
    exact ⟨a, rfl, cells_elem hk h1 j hj, by rw [addr_block]; exact h2 hne⟩
end
def fK : List Rw → I → Nat
  | [], _ => 0
  | x :: l, d => if x.id.num < d.num then fK l d + 1 else 0
theorem fK_le : ∀ (l : List Rw) (d : I), fK l d ≤ l.length
  | [], d => Nat.le_refl _
  | x :: l, d => by unfold fK; split <;> simp; exact fK_le l d
theorem fK_eq {d : I} : ∀ (l : List Rw) (j : Nat), j ≤ l.length → (∀ i (hi : i < l.length), i < j → l[i].id.num < d.num) → (∀ h : j < l.length, ¬ l[j].id.num < d.num) → fK l d = j
  | [], j, hj, _, _ => by simp at hj; subst hj; rfl
  | x :: l, 0, hj, h1, h2 => by
    have := h2 (by simp)
    unfold fK; rw [if_neg (by simpa using this)]
  | x :: l, j + 1, hj, h1, h2 => by
    unfold fK
    have h0 := h1 0 (by simp) (by omega)
    rw [if_pos (by simpa using h0), fK_eq l j (by simpa using hj) (fun i hi hij => by have := h1 (i + 1) (by simpa using hi) (by omega); simpa using this) (fun h => by have := h2 (by simpa using h); simpa using this)]
def rfnd (l : List Rw) (d : I) : Option Rw := match l[fK l d]? with
  | some r => if r.id = d then some r else none
  | none => none
def stateR (r : Rt) (d : I) : Int := match rfnd r.L d with
  | some x => if x.ended then 2 else 1
  | none => if oldF r.F d then 3 else if (d.d == 0) && decide (d.s - floorF r.F (d.n, d.l) > r.win) then 4 else 0
structure Rt.Ok (r : Rt) : Prop where
  id : ∀ x ∈ r.L, x.id.In
  ll : r.L.length ≤ 100000
  fl : r.F.length ≤ 100000
  f : ∀ x ∈ r.F, 0 ≤ x.2 ∧ x.2 < 4294967296
theorem floor_in {F : List Fr} (h : ∀ x ∈ F, 0 ≤ x.2 ∧ x.2 < 4294967296) (p : Int × Int) : 0 ≤ floorF F p ∧ floorF F p < 4294967296 := by
  rw [floorF]
  cases hf : fnd p F with
  | none => simp
  | some v => exact h _ (fnd_mem hf)
theorem c_rNew (a : Int) : Ctr Try.prog 14 #[.int .i64 a] noMem [] (fun b : Nat => .pointer (some ⟨b, 0, none⟩)) (fun _ _ => True) (fun b => [rtA b ⟨if (16 : Int) < (if (1 : Int) > a then 1 else a) then 16 else (if (1 : Int) > a then 1 else a), [], []⟩]) := by
  refine Ctr.mk fun w F m C _ => x_rNew _ w _ ?_
  have C1 := (C.alloc [.int .i64 (if (16 : Int) < (if (1 : Int) > a then 1 else a) then 16 else (if (1 : Int) > a then 1 else a)), .slice none 0 0, .slice none 0 0] 82)
  have C2 := (Ctx.slNil (q := none) (ty := 94) (sz := 13) (Ctx.slNil (q := none) (ty := 96) (sz := 3) C1)).pm [2, 0, 1] rfl
  exact Ctr.ret _ rfl trivial (rtI (none, 0) (none, 0) C2)
theorem find_and (x d : I) : (true && (((x.n == d.n) && (x.l == d.l)) && ((x.s == d.s) && ((x.d == d.d) && (((x.g0 == d.g0) && (x.i0 == d.i0)) && (((x.g1 == d.g1) && (x.i1 == d.i1)) && ((x.g2 == d.g2) && (x.i2 == d.i2)))))))) = decide (x = d) := by
  rw [Bool.true_and, Bool.eq_iff_iff, i_eq, decide_eq_true_eq]
theorem rw_id {x : Rw} {k : Nat} {v : Value} (h : x.id.row[k]? = some v) : x.row[k]? = some v := by
  match k, h with
  | 0, h | 1, h | 2, h | 3, h | 4, h | 5, h | 6, h | 7, h | 8, h | 9, h => exact h
  | k + 10, h => simp [I.row] at h
theorem c_rfind (b : Nat) (r : Rt) (d : I) (hd : d.In) (hr : r.Ok) : Ctr Try.prog 49 #[.pointer (some ⟨b, 0, none⟩), d.V] noMem [rtA b r] (fun _ : Unit => .tuple #[.int .i64 (fK r.L d), .bool (rfnd r.L d).isSome]) (fun _ _ => True) (fun _ => [rtA b r]) := by
  refine Ctr.mk fun w F m C _ => x_rfind _ _ _ _ _ _ _ _ _ _ _ w _ fun w1 L2 h1 g1 => ?_
  obtain ⟨p, q, C⟩ := rtO C
  replace C := C.hidL h1 g1
  have hll := hr.ll
  refine ⟨fun n w' L' => ∃ (j : Nat), n = j ∧ j ≤ r.L.length ∧ (∀ i (hi : i < r.L.length), i < j → r.L[i].id.num < d.num) ∧ Ctx F m w w' L' m (rtAs b r p q), fun n _ => (r.L.length - n).toNat, ⟨0, rfl, by omega, fun i hi h => by omega, C⟩, ?_⟩
  clear C h1 g1
  rintro n w6 L7 _ ⟨j, rfl, hj, hlt, D⟩
  have hcell : ∀ {w' L'}, Ctx F m w w' L' m (rtAs b r p q) → w'.cell? ((⟨b, 0, none⟩ : Addr).add 1) = some (slV p r.L.length) ∧ (⟨b, 0, none⟩ : Addr).block ∉ L' := fun D => ⟨by rw [Addr.add_mid]; exact D.blkCell (j := 1) rfl, D.blkAt.2⟩
  by_cases hjl : j < r.L.length
  rotate_left
  · have hk : fK r.L d = j := fK_eq _ _ hj hlt (fun h => absurd h hjl)
    have hf : rfnd r.L d = none := by rw [rfnd, hk, List.getElem?_eq_none (by omega)]
    refine ⟨[(⟨b, 1, none⟩, [slV p r.L.length])], D.blkFact1 1 _ rfl (facts_nil _ _), _, _, _, by simp [Addr.add_mid]; exact ⟨rfl, rfl, rfl⟩, ?_⟩
    rw [if_neg (by simpa using hjl)]
    refine ⟨_, _, _, (hcell D).1, (hcell D).2, ?_⟩
    rw [if_neg (by simpa using hjl)]
    intro w15 h15
    exact Ctr.ret () (by rw [hk, hf]; rfl) trivial (rtI p q (D.hid0 h15))
  obtain ⟨pa, hpa, hc, hcb⟩ := sl_elem rw_len (by decide) (D.pm [1, 0, 2] rfl) hjl
  have h10 : ∀ k v, r.L[j].id.row[k]? = some v → r.L[j].row[k]? = some v := fun k v h => rw_id h
  have h10' : ∀ k v, r.L[j].id.row[k]? = some v → (r.L.flatMap Rw.row)[j * 13 + k]? = some v := fun k v h => flat_at rw_len _ _ hjl _ _ (h10 k v h)
  obtain ⟨p1, p2⟩ := p
  simp only at hpa
  subst hpa
  have hfacts : ∀ {w' L'}, Ctx F m w w' L' m (rtAs b r (some pa, p2) q) → FactsW [(pa.add (j * 13), r.L[j].id.row), (⟨b, 1, none⟩, [.slice (some pa) r.L.length p2])] w' L' := fun D =>
    (D.pm [1, 0, 2] rfl).slFact (j * 13) _ _ h10' (D.blkFact1 1 _ rfl (facts_nil _ _))
  refine ⟨_, hfacts D, some pa, r.L.length, p2, by simp [Addr.add_mid], ?_⟩
  rw [if_pos (by simpa using hjl)]
  refine ⟨some pa, r.L.length, p2, by simp [Addr.add_mid], by omega, by simpa using hjl, ?_⟩
  rw [onSome_some]
  refine ⟨_, _, _, _, _, _, _, _, _, _, by rw [Int.toNat_natCast, Addr.add_zero']; exact List.mem_cons_self, fun w45 L46 h45 g45 => ?_⟩
  replace D := D.hidL h45 g45
  have hin := hr.id _ (List.getElem_mem hjl)
  refine D.gives (c_ref_Compare _ d hin hd) fun w48 k48 D => ⟨_, rfl, k48, hfacts D, ?_⟩
  rw [cmp_num _ _ hin hd]
  by_cases hn : r.L[j].id.num < d.num
  · rw [if_pos (by rw [cmp2_lt hn]; rfl)]
    have e : IntKind.wrap .i64 ((j : Int) + 1) = ((j + 1 : Nat) : Int) := by rw [w_i64 (by omega) (by omega)]; omega
    rw [e]
    refine ⟨rfl, ⟨j + 1, rfl, hjl, fun i hi hij => ?_, D⟩, Nat.le_of_eq (by show ((r.L.length : Int) - ((j + 1 : Nat) : Int)).toNat + 1 = ((r.L.length : Int) - (j : Int)).toNat; omega)⟩
    by_cases hi2 : i = j
    · subst hi2; exact hn
    · exact hlt i hi (by omega)
  · have hnn : ¬ (true && decide (cmp2 r.L[j].id.num d.num < 0)) = true := by
      have : ¬ cmp2 r.L[j].id.num d.num < 0 := by unfold cmp2; rw [if_neg hn]; split <;> omega
      simpa using this
    rw [if_neg hnn]
    have hk : fK r.L d = j := fK_eq _ _ hj hlt (fun h => hn)
    refine ⟨_, _, _, (hcell D).1, (hcell D).2, ?_⟩
    rw [if_pos (by simpa using hjl)]
    refine ⟨_, _, _, (hcell D).1, (hcell D).2, by omega, by simpa using hjl, ?_⟩
    rw [onSome_some]
    have hc2 := (sl_elem rw_len (by decide) (D.pm [1, 0, 2] rfl) hjl)
    obtain ⟨pa', hpa', hc2, hcb2⟩ := hc2
    obtain rfl : pa = pa' := by simpa using hpa'
    refine ⟨_, _, _, _, _, _, _, _, _, _, by rw [Int.toNat_natCast]; exact cells_part hc2 0 r.L[j].id.row (fun k v h => by rw [Nat.zero_add]; exact h10 k v h), by rw [Int.toNat_natCast, Addr.add_zero']; exact hcb2, fun w68 h68 => ?_⟩
    refine Ctr.ret () ?_ trivial (rtI _ q (D.hid0 h68))
    rw [find_and, hk, rfnd, hk, List.getElem?_eq_getElem hjl]
    by_cases he : r.L[j].id = d <;> simp [he]
end Go.Proofs
