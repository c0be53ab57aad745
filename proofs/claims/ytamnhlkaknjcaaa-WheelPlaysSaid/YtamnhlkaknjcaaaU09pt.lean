import Derived.Test.YtamnhlkaknjcaaaU09n
import Derived.Test.YtamnhlkaknjcaaaV09f
import Derived.Test.YtamnhlkaknjcaaaV09e
set_option linter.unusedVariables false
set_option linter.unusedSimpArgs false
set_option maxRecDepth 10000
namespace Go.Proofs
open Go X RowKit Go.Sort
/-! ### the document's wheel -/
abbrev T1 : Type := J × Int
@[reducible] def tR (x : T1) : List Value := [.int .u8 x.1.1.kd, .int .u8 x.1.1.pn, .int .u16 x.1.1.pl, .int .u8 x.1.1.id.n, .int .u16 x.1.1.id.l, .int .u32 x.1.1.id.s, .int .u8 x.1.1.id.d, .int .u8 x.1.1.id.g0, .int .u8 x.1.1.id.i0, .int .u8 x.1.1.id.g1, .int .u8 x.1.1.id.i1, .int .u8 x.1.1.id.g2, .int .u8 x.1.1.id.i2, .int .i64 x.2]
theorem tR_len (x : T1) : (tR x).length = 14 := rfl
theorem tR_one (x : T1) : ∀ u ∈ tR x, oneC u = true := by
  intro u hu
  simp only [tR, List.mem_cons, List.not_mem_nil, or_false] at hu
  rcases hu with rfl | rfl | rfl | rfl | rfl | rfl | rfl | rfl | rfl | rfl | rfl | rfl | rfl | rfl <;> rfl
theorem ts_one (l : List T1) : ∀ u ∈ l.flatMap tR, oneC u = true := flat_one tR_one l
theorem t_key {x : T1} {j : Nat} {v : Value} (h : (jR x.1)[j]? = some v) : (tR x)[0 + j]? = some v := by
  rw [Nat.zero_add]
  match j, h with
  | 0, h | 1, h | 2, h | 3, h | 4, h | 5, h | 6, h | 7, h | 8, h | 9, h | 10, h | 11, h | 12, h => exact h
  | j + 13, h => simp [K.row] at h
structure Rt where (most : Int) (L : List T1)
abbrev tsA (p : Sl) (L : List T1) : Asn := slA (slV p L.length) L.length (L.flatMap tR) 91 14
abbrev rtB (b : Nat) (r : Rt) (p : Sl) : Asn := blk b [slV p r.L.length, .int .i64 r.most] 88
abbrev rtAs (b : Nat) (r : Rt) (p : Sl) : List Asn := [rtB b r p, tsA p r.L]
def rtA (b : Nat) (r : Rt) : Asn := Asn.ex fun y : Sl => Asn.all (rtAs b r y)
section
variable {F0 : List Nat} {m0 : Mem} {w0 w : World} {L : List Nat} {m : Mem} {As : List Asn}
theorem rtO {b : Nat} {r : Rt} (C : Ctx F0 m0 w0 w L m (rtA b r :: As)) : ∃ p, Ctx F0 m0 w0 w L m (rtAs b r p ++ As) := by
  obtain ⟨p, C⟩ := C.ex
  exact ⟨p, C.all⟩
theorem rtI {b : Nat} {r : Rt} (p : Sl) (C : Ctx F0 m0 w0 w L m (rtAs b r p ++ As)) : Ctx F0 m0 w0 w L m (rtA b r :: As) := Ctx.exI p (Ctx.allI C)
theorem ts_elem {l : List T1} {p : Sl} (C : Ctx F0 m0 w0 w L m (tsA p l :: As)) {j : Nat} (hj : j < l.length) :
    ∃ a, p.1 = some a ∧ Cells w (a.add (j * 14)) (tR l[j]) ∧ (a.add (j * 14)).block ∉ L := by
  have hc := C.slCells
  have hne : l.flatMap tR ≠ [] := fun e => by
    have := flat_len tR_len l
    rw [e] at this
    simp at this; omega
  cases hp : p.1 with
  | none => exact absurd (hc.2 hp) hne
  | some a =>
    obtain ⟨h1, h2⟩ := hc.1 a hp
    exact ⟨a, rfl, cells_elem tR_len h1 j hj, by rw [addr_block]; exact h2 hne⟩
theorem rcell {b : Nat} {r : Rt} {p : Sl} (D : Ctx F0 m0 w0 w L m (rtB b r p :: As)) : w.cell? ((⟨b, 0, none⟩ : Addr).add 0) = some (slV p r.L.length) ∧ ¬ ((⟨b, 0, none⟩ : Addr).add 0).block ∈ L :=
  ⟨by rw [Addr.add_mid]; exact D.blkCell (j := 0) rfl, by rw [addr_block]; exact D.blkAt.2⟩
end
/-- the place of a key; the length: it is not there -/
def fI : List T1 → J → Nat
  | [], _ => 0
  | x :: l, d => if x.1 = d then 0 else fI l d + 1
theorem fI_le : ∀ (l : List T1) (d : J), fI l d ≤ l.length
  | [], d => Nat.le_refl _
  | x :: l, d => by unfold fI; split <;> simp; exact fI_le l d
theorem fI_eq {d : J} : ∀ (l : List T1) (j : Nat), j ≤ l.length → (∀ i (hi : i < l.length), i < j → l[i].1 ≠ d) → (∀ h : j < l.length, l[j].1 = d) → fI l d = j
  | [], j, hj, _, _ => by simp at hj; subst hj; rfl
  | x :: l, 0, hj, h1, h2 => by
    have := h2 (by simp)
    unfold fI; rw [if_pos (by simpa using this)]
  | x :: l, j + 1, hj, h1, h2 => by
    unfold fI
    have h0 := h1 0 (by simp) (by omega)
    rw [if_neg (by simpa using h0), fI_eq l j (by simpa using hj) (fun i hi hij => by have := h1 (i + 1) (by simpa using hi) (by omega); simpa using this) (fun h => by have := h2 (by simpa using h); simpa using this)]
theorem fI_at {d : J} : ∀ (l : List T1) (h : fI l d < l.length), l[fI l d].1 = d
  | [], h => by simp at h
  | x :: l, h => by
    by_cases hx : x.1 = d
    · have e : fI (x :: l) d = 0 := by unfold fI; rw [if_pos hx]
      simp only [e]; exact hx
    · have e : fI (x :: l) d = fI l d + 1 := by rw [fI, if_neg hx]
      have h' : fI l d < l.length := by rw [e] at h; simpa using h
      simp only [e, List.getElem_cons_succ]
      exact fI_at l h'
theorem fI_mem {d : J} {l : List T1} : fI l d < l.length ↔ d ∈ l.map Prod.fst := by
  constructor
  · intro h
    exact List.mem_map.2 ⟨_, List.getElem_mem h, fI_at l h⟩
  · intro h
    induction l with
    | nil => simp at h
    | cons x l ih =>
      by_cases hx : x.1 = d
      · rw [fI, if_pos hx]; simp
      · rw [fI, if_neg hx]
        simp only [List.map_cons, List.mem_cons] at h
        rcases h with h | h
        · exact absurd h.symm hx
        · simpa using ih h
def findV (l : List T1) (d : J) : Int := if fI l d < l.length then fI l d else -1
theorem c_rfind (b : Nat) (r : Rt) (d : J) (hll : r.L.length ≤ 100000) : Ctr Try.prog 38 #[.pointer (some ⟨b, 0, none⟩), jV d] noMem [rtA b r] (fun _ : Unit => .int .i64 (findV r.L d)) (fun _ _ => True) (fun _ => [rtA b r]) := by
  refine Ctr.mk fun w F m C _ => x_rfind _ _ _ _ _ _ _ _ _ _ _ _ _ _ w _ fun w1' L2 h1 g1 => ?_
  obtain ⟨p, C⟩ := rtO C
  replace C := C.hidL h1 g1
  refine ⟨fun n w' L' => ∃ (j : Nat), n = j ∧ j ≤ r.L.length ∧ (∀ i (hi : i < r.L.length), i < j → r.L[i].1 ≠ d) ∧ Ctx F m w w' L' m (rtAs b r p), fun n _ => (r.L.length - n).toNat, ⟨0, rfl, by omega, fun i hi h => by omega, C⟩, ?_⟩
  clear C h1 g1
  rintro n w6 L7 _ ⟨j, rfl, hj, hlt, D⟩
  refine ⟨_, _, _, (rcell D).1, (rcell D).2, ?_⟩
  by_cases hjl : j < r.L.length
  rotate_left
  · rw [if_neg (by simpa using hjl)]
    have hk : fI r.L d = j := fI_eq _ _ hj hlt (fun h => absurd h hjl)
    exact Ctr.ret () (by rw [findV, hk, if_neg hjl]) trivial (rtI p D)
  rw [if_pos (by simpa using hjl)]
  refine ⟨_, _, _, (rcell D).1, (rcell D).2, by omega, by simpa using hjl, ?_⟩
  obtain ⟨pa, hpa, hc, hcb⟩ := ts_elem D.swap hjl
  rw [hpa, onSome_some]
  refine ⟨_, _, _, _, _, _, _, _, _, _, _, _, _, cells_part hc 0 (jR r.L[j].1) fun k v h => t_key h, by rw [addr_block]; exact hcb, ?_⟩
  rw [k_eq r.L[j].1.1 d.1]
  by_cases he : r.L[j].1 = d
  · rw [if_pos (by simp [he])]
    intro w30 h30
    have hk : fI r.L d = j := fI_eq _ _ hj hlt (fun _ => he)
    exact Ctr.ret () (by rw [findV, hk, if_pos hjl]) trivial (rtI p (D.hid0 h30))
  · have he' : ¬ r.L[j].1.1 = d.1 := fun e => he (Subtype.ext e)
    rw [if_neg (by simpa using he')]
    intro w28 L29 h28 g28
    refine ⟨rfl, ⟨j + 1, w1 j (by omega), hjl, fun i hi hij => ?_, D.hidL h28 g28⟩, ?_⟩
    · by_cases hi2 : i = j
      · subst hi2; exact he
      · exact hlt i hi (by omega)
    · rw [w1 j (by omega)]
      show ((r.L.length : Int) - ((j + 1 : Nat) : Int)).toNat + 1 ≤ ((r.L.length : Int) - (j : Int)).toNat
      omega
section
variable {F0 : List Nat} {m0 : Mem} {w0 w : World} {L : List Nat} {m : Mem} {As : List Asn} {A0 : Asn}
theorem b86 : appB Try.prog 86 86 91 14 96 = true := by kernel_rfl
theorem b67 : appB Try.prog 67 67 32 13 96 = true := by kernel_rfl
theorem app_take {p : Sl} {l out : List T1} {q : Option Addr} {c : Nat} (hl : l.length ≤ 100000) (ho : out.length ≤ 100001) (k : Nat) (hk : k ≤ l.length) (c2 : Nat) (C : Ctx F0 m0 w0 w L m (A0 :: tsA p l :: tsA (q, c) out :: As)) :
    ∃ q1 c1 w2, (Builtin.append_ #[86, 86] 86 #[.slice q out.length c, .slice (cutA p.1 p.2 0 14) k c2]).run Try.prog w = .ok (.slice q1 (out ++ l.take k).length c1) w2 ∧ Kept L w w2 ∧ Ctx F0 m0 w0 w2 L m (A0 :: tsA p l :: tsA (q1, c1) (out ++ l.take k) :: As) := by
  have hs := Ctx.srcTake C.swap k hk c2
  rw [flat_take tR_len] at hs
  obtain ⟨q1, c1, w2, hr, hkk, C2⟩ := Ctx.app (P := Try.prog) C.third 86 b86 hs (by omega) (ts_one _)
  have e1 : (out ++ l.take k).length = out.length + k := by rw [List.length_append, List.length_take]; omega
  have e2 : (out ++ l.take k).flatMap tR = out.flatMap tR ++ (l.take k).flatMap tR := by simp
  refine ⟨q1, c1, w2, by rw [e1]; exact hr, hkk, ?_⟩
  unfold tsA slV
  rw [e1, e2]
  exact C2.perm (List.Perm.trans (.swap ..) (List.Perm.cons _ (.swap ..)))
theorem app_drop {p : Sl} {l out : List T1} {q : Option Addr} {c : Nat} (hl : l.length ≤ 100000) (ho : out.length ≤ 100001) (k : Nat) (hk : k ≤ l.length) (c2 : Nat) (C : Ctx F0 m0 w0 w L m (A0 :: tsA p l :: tsA (q, c) out :: As)) :
    ∃ q1 c1 w2, (Builtin.append_ #[86, 86] 86 #[.slice q out.length c, .slice (cutA p.1 p.2 k 14) (l.length - k) c2]).run Try.prog w = .ok (.slice q1 (out ++ l.drop k).length c1) w2 ∧ Kept L w w2 ∧ Ctx F0 m0 w0 w2 L m (A0 :: tsA p l :: tsA (q1, c1) (out ++ l.drop k) :: As) := by
  have hs := Ctx.srcDrop C.swap k hk c2
  rw [flat_drop tR_len] at hs
  obtain ⟨q1, c1, w2, hr, hkk, C2⟩ := Ctx.app (P := Try.prog) C.third 86 b86 hs (by omega) (ts_one _)
  have e1 : (out ++ l.drop k).length = out.length + (l.length - k) := by rw [List.length_append, List.length_drop]
  have e2 : (out ++ l.drop k).flatMap tR = out.flatMap tR ++ (l.drop k).flatMap tR := by simp
  refine ⟨q1, c1, w2, by rw [e1]; exact hr, hkk, ?_⟩
  unfold tsA slV
  rw [e1, e2]
  exact C2.perm (List.Perm.trans (.swap ..) (List.Perm.cons _ (.swap ..)))
theorem app_one {out : List T1} {q : Option Addr} {c : Nat} (x : T1) {a1 : Nat} (ho : out.length ≤ 100001) (C : Ctx F0 m0 w0 w L m (tsA (q, c) out :: As)) (hc : Cells w ⟨a1, 0, none⟩ (tR x)) :
    ∃ q1 c1 w2, (Builtin.append_ #[86, 86] 86 #[.slice q out.length c, .slice (some ⟨a1, 0, none⟩) 1 1]).run Try.prog w = .ok (.slice q1 (out ++ [x]).length c1) w2 ∧ Kept L w w2 ∧ Ctx F0 m0 w0 w2 L m (tsA (q1, c1) (out ++ [x]) :: As) := by
  obtain ⟨q1, c1, w2, hr, hkk, C2⟩ := Ctx.app (P := Try.prog) C 86 b86 (.some _ 1 1 (tR x) rfl hc) (by omega) (tR_one _)
  have e1 : (out ++ [x]).length = out.length + 1 := by simp
  have e2 : (out ++ [x]).flatMap tR = out.flatMap tR ++ tR x := by simp
  refine ⟨q1, c1, w2, by rw [e1]; exact hr, hkk, ?_⟩
  unfold tsA slV
  rw [e1, e2]
  exact C2
end
def outF (L : List T1) (d : J) : List T1 := L.take (fI L d) ++ L.drop (fI L d + 1)
def rcancelF (r : Rt) (d : J) : Bool × Rt := if fI r.L d < r.L.length then (true, { r with L := outF r.L d }) else (false, r)
theorem c_rCancel (b : Nat) (r : Rt) (d : J) (hll : r.L.length ≤ 100000) : Ctr Try.prog 18 #[.pointer (some ⟨b, 0, none⟩), jV d] noMem [rtA b r] (fun _ : Unit => .bool (rcancelF r d).1) (fun _ _ => True) (fun _ => [rtA b (rcancelF r d).2]) := by
  refine Ctr.mk fun w F m C _ => x_rCancel _ _ _ _ _ _ _ _ _ _ _ _ _ _ w _ fun w1' L2 h1 g1 => ?_
  refine (c_rfind b r d hll).call (As := []) (C.hidL h1 g1) trivial fun _ m2 w4 hk hm _ C => ⟨_, rfl, hk, ?_⟩
  by_cases hkl : fI r.L d < r.L.length
  rotate_left
  · rw [if_pos (by rw [findV, if_neg hkl]; decide)]
    have e : rcancelF r d = (false, r) := by simp [rcancelF, hkl]
    rw [e]; exact Ctr.ret () rfl trivial C
  have hfv : findV r.L d = fI r.L d := by rw [findV, if_pos hkl]
  rw [hfv, if_neg (by simp)]
  have e : rcancelF r d = (true, { r with L := outF r.L d }) := by simp [rcancelF, hkl]
  rw [e]
  obtain ⟨p, C⟩ := rtO C
  replace C : Ctx F m w w4 L2 m2 (rtAs b r p) := C
  have hcap := (Ctx.slCap C.swap).1
  have hfw : ∀ {w' L' m'} {As : List Asn}, Ctx F m w w' L' m' (rtB b r p :: As) → FactsW [(⟨b, 0, none⟩, [slV p r.L.length])] w' L' := fun C => C.blkFact1 0 _ rfl (facts_nil _ _)
  rw [w1 (fI r.L d) (by omega)]
  refine ⟨_, hfw C, p.1, r.L.length, p.2, by simp [Addr.add_mid], by omega, by omega, p.1, r.L.length, p.2, by simp [Addr.add_mid], by omega, by omega, fun w14 L15 h14 g14 => ?_⟩
  rw [Int.toNat_natCast, Int.toNat_natCast]
  have D0 : Ctx F m w (w14.alloc (.cells #[] 91)) L15 m2 [rtB b r p, tsA p r.L, tsA (some ⟨w14.heap.size, 0, none⟩, 0) []] :=
    (Ctx.slNil (q := some ⟨w14.heap.size, 0, none⟩) (ty := 91) (sz := 14) ((C.hidL h14 g14).newDrop [] 91)).perm ((List.Perm.swap ..).trans (List.Perm.cons _ (List.Perm.swap ..)))
  refine ⟨hfw D0, ?_⟩
  obtain ⟨q1, c1, w2, hr1, hk1, D1⟩ := app_take hll (by simp) (fI r.L d) (by omega) p.2 D0
  refine ⟨q1, _, c1, w2, hr1, hk1, hfw D1, ?_⟩
  rw [List.nil_append] at D1 ⊢
  obtain ⟨q2, c2, w3, hr2, hk2, D3⟩ := app_drop hll (by rw [List.length_take]; omega) (fI r.L d + 1) (by omega) (p.2 - (fI r.L d + 1)) D1
  refine ⟨q2, _, c2, w3, hr2, hk2, hfw D3, ?_⟩
  rw [Addr.add_mid]
  refine ⟨rfl, D3.there _ _ (by simp), D3.blkAt.2, ?_⟩
  have C2 := D3.store 0 [slV (q2, c2) (outF r.L d).length] (by simp)
  exact Ctr.ret (m' := m2) (L := L15) () rfl trivial (rtI (q2, c2) ((C2.pk [0, 2] [1] rfl)))
theorem c_rAt (b : Nat) (r : Rt) (d : J) (hll : r.L.length ≤ 100000) : Ctr Try.prog 20 #[.pointer (some ⟨b, 0, none⟩), jV d] noMem [rtA b r] (fun _ : Unit => if h : fI r.L d < r.L.length then .tuple #[.int .i64 r.L[fI r.L d].2, .bool true] else .tuple #[.int .i64 0, .bool false]) (fun _ _ => True) (fun _ => [rtA b r]) := by
  refine Ctr.mk fun w F m C _ => x_rAt _ _ _ _ _ _ _ _ _ _ _ _ _ _ w _ fun w1' L2 h1 g1 => ?_
  refine (c_rfind b r d hll).call (As := []) (C.hidL h1 g1) trivial fun _ m2 w4 hk hm _ C => ⟨_, rfl, hk, ?_⟩
  by_cases hkl : fI r.L d < r.L.length
  rotate_left
  · rw [if_pos (by rw [findV, if_neg hkl]; decide)]
    exact Ctr.ret () (by rw [dif_neg hkl]) trivial C
  have hfv : findV r.L d = fI r.L d := by rw [findV, if_pos hkl]
  rw [hfv, if_neg (by simp)]
  obtain ⟨p, C⟩ := rtO C
  obtain ⟨pa, hpa, hc, hcb⟩ := ts_elem (Ctx.swap C) hkl
  refine ⟨_, _, _, (rcell C).1, (rcell C).2, by omega, by simpa using hkl, ?_⟩
  rw [hpa, onSome_some]
  refine ⟨_, by rw [Int.toNat_natCast]; exact hc 13 _ rfl, by rw [Int.toNat_natCast]; exact hcb, ?_⟩
  exact Ctr.ret () (by rw [dif_pos hkl]) trivial (rtI p C)
theorem c_rLen (b : Nat) (r : Rt) : Ctr Try.prog 26 #[.pointer (some ⟨b, 0, none⟩)] noMem [rtA b r] (fun _ : Unit => .int .i64 r.L.length) (fun _ _ => True) (fun _ => [rtA b r]) := by
  refine Ctr.mk fun w F m C _ => x_rLen _ w _ ?_
  obtain ⟨p, C⟩ := rtO C
  exact ⟨_, _, _, (rcell C).1, Ctr.ret () rfl trivial (rtI p C)⟩
def headF (L : List T1) : Value := match L with
  | [] => .tuple #[.int .i64 0, .bool false]
  | x :: _ => .tuple #[.int .i64 x.2, .bool true]
theorem head_at : ∀ (L : List T1) (h : 0 < L.length), headF L = .tuple #[.int .i64 L[0].2, .bool true]
  | x :: l, _ => rfl
theorem c_rNext (b : Nat) (r : Rt) : Ctr Try.prog 24 #[.pointer (some ⟨b, 0, none⟩)] noMem [rtA b r] (fun _ : Unit => headF r.L) (fun _ _ => True) (fun _ => [rtA b r]) := by
  refine Ctr.mk fun w F m C _ => x_rNext _ w _ ?_
  obtain ⟨p, C⟩ := rtO C
  refine ⟨_, _, _, (rcell C).1, ?_⟩
  by_cases h0 : 0 < r.L.length
  rotate_left
  · rw [if_pos (by simp; exact List.length_eq_zero_iff.1 (by omega))]
    refine Ctr.ret () ?_ trivial (rtI p C)
    have : r.L = [] := List.length_eq_zero_iff.1 (by omega)
    rw [this]; rfl
  rw [if_neg (by simp; intro e; rw [e] at h0; simp at h0)]
  obtain ⟨pa, hpa, hc, hcb⟩ := ts_elem (Ctx.swap C) h0
  refine ⟨_, _, _, (rcell C).1, by omega, by omega, ?_⟩
  rw [hpa, onSome_some]
  refine ⟨_, by rw [show pa.add 0 = pa.add (0 * 14) from rfl]; exact hc 13 _ rfl, ?_⟩
  exact Ctr.ret () (by rw [head_at r.L h0]) trivial (rtI p C)
theorem slCut {q : Option Addr} {n c : Nat} {cs : List Value} {ty : TypeId} {sz : Nat} {F0 : List Nat} {m0 : Mem} {w0 w : World} {L : List Nat} {m : Mem} {As : List Asn} (C : Ctx F0 m0 w0 w L m (slA (.slice q n c) n cs ty sz :: As)) (k : Nat) (hk : k ≤ n) :
    Ctx F0 m0 w0 w L m (slA (.slice (X.cutA q c k sz) (n - k) (c - k)) (n - k) (cs.drop (k * sz)) ty sz :: As) := by
  obtain ⟨q', cap', e, h2, h3, h4, h⟩ := C.slO
  injection e with e1 _ e2; subst e1; subst e2
  have hm : (n - k) * sz = n * sz - k * sz := Nat.sub_mul ..
  rcases h with ⟨rfl, C'⟩ | ⟨b, pre, rest, rfl, hl, C'⟩
  · obtain rfl : n = 0 := by omega
    obtain rfl : k = 0 := by omega
    have : cs = [] := List.eq_nil_of_length_eq_zero (by rw [h2]; simp)
    subst this
    simpa using C'.slNil
  · by_cases hkc : k = c
    · have hn : n = c := by omega
      subst hn; subst hkc
      have e0 : (cs.drop (k * sz)) = [] := List.drop_eq_nil_of_le (by omega)
      rw [e0, Nat.sub_self]
      exact C'.drop.slNil
    · have e1 : X.cutA (some ⟨b, pre.length, none⟩) c k sz = some ⟨b, (pre ++ cs.take (k * sz)).length, none⟩ := by
        have hle : k * sz ≤ n * sz := Nat.mul_le_mul_right _ hk
        unfold X.cutA
        rw [if_neg (by simpa using fun h => hkc (by omega))]
        simp only [Option.map_some, Addr.add_mid]
        rw [List.length_append, List.length_take]
        rw [Nat.min_eq_left (by omega)]
      rw [e1]
      refine Ctx.slI (rest := rest) (by simp) (by rw [List.length_drop, h2, hm]) (by omega) (by omega) ?_ C'
      have : c - k - (n - k) = c - n := by omega
      rw [this]; exact hl
theorem c_rDue (b : Nat) (r : Rt) (now : Int) (hll : r.L.length ≤ 100000) : Ctr Try.prog 22 #[.pointer (some ⟨b, 0, none⟩), .int .i64 now] noMem [rtA b r] (fun v : Sl => slV v (r.L.takeWhile fun x => decide (x.2 ≤ now)).length) (fun _ _ => True)
    (fun v => [jsA 32 v ((r.L.takeWhile fun x => decide (x.2 ≤ now)).map Prod.fst), rtA b { r with L := r.L.dropWhile fun x => decide (x.2 ≤ now) }]) := by
  refine Ctr.mk fun w F m C _ => x_rDue _ _ w _ ?_
  let P0 : T1 → Bool := fun x => decide (x.2 ≤ now)
  have C0 : Ctx F m w w [] m [jsA 32 (none, 0) [], rtA b r] := Ctx.slNil (q := none) (ty := 32) (sz := 13) C
  refine ⟨fun q n c w' L' => ∃ (A B : List T1), r.L = A ++ B ∧ (∀ x ∈ A, P0 x = true) ∧ n = A.length ∧ Ctx F m w w' [] m [jsA 32 (q, c) (A.map Prod.fst), rtA b { r with L := B }], fun q n c w' => r.L.length - n, ⟨[], r.L, rfl, by simp, rfl, C0⟩, ?_⟩
  clear C C0
  rintro q n c w6 L7 _ ⟨A, B, hAB, hA, rfl, D⟩
  have hlen : r.L.length = A.length + B.length := by rw [hAB, List.length_append]
  obtain ⟨p, D⟩ := rtO (Ctx.swap D)
  have fin : (∀ x B', B = x :: B' → P0 x = false) → ∃ (i : Sl) (m' : Mem) (L : List Nat), (Ending.returned (.slice q A.length c) = .returned (slV i (r.L.takeWhile P0).length)) ∧ True ∧ Ctx F m w w6 L m' [jsA 32 i ((r.L.takeWhile P0).map Prod.fst), rtA b { r with L := r.L.dropWhile P0 }] := by
    intro hB
    have e1 : r.L.takeWhile P0 = A := by
      rw [hAB, List.takeWhile_append_of_pos hA]
      cases B with
      | nil => simp
      | cons x B' => rw [List.takeWhile_cons_of_neg (by rw [hB x B' rfl]; decide)]; simp
    have e2 : r.L.dropWhile P0 = B := by
      rw [hAB, List.dropWhile_append_of_pos hA]
      cases B with
      | nil => rfl
      | cons x B' => rw [List.dropWhile_cons_of_neg (by rw [hB x B' rfl]; decide)]
    rw [e1, e2]
    exact Ctr.ret (m' := m) (L := []) (q, c) rfl trivial (Ctx.swap (rtI p D))
  refine ⟨_, _, _, (rcell D).1, ?_⟩
  by_cases h0 : 0 < B.length
  rotate_left
  · rw [if_neg (by simp; exact List.length_eq_zero_iff.1 (by omega))]
    have : B = [] := List.length_eq_zero_iff.1 (by omega)
    exact fin fun x B' e => by rw [this] at e; cases e
  obtain ⟨x, B', rfl⟩ : ∃ x B', B = x :: B' := by
    cases B with
    | nil => simp at h0
    | cons x B' => exact ⟨x, B', rfl⟩
  have hB0 : (0 : Int) < (((x :: B').length : Nat) : Int) := by omega
  rw [if_pos (by simp)]
  obtain ⟨pa, hpa, hc, hcb⟩ := ts_elem (D.pm [1, 0, 2] rfl) h0
  refine ⟨_, _, _, (rcell D).1, by omega, by omega, ?_⟩
  rw [hpa, onSome_some]
  refine ⟨_, by rw [show pa.add 0 = pa.add (0 * 14) from rfl]; exact hc 13 _ rfl, ?_⟩
  by_cases hx : x.2 ≤ now
  rotate_left
  · rw [if_neg (by simpa using hx)]
    exact fin fun y B2 e => by injection e with e _; subst e; simp [P0, hx]
  rw [if_pos (by simpa using hx)]
  refine ⟨_, _, _, (rcell D).1, by omega, by simp, ?_⟩
  rw [hpa, onSome_some]
  refine ⟨_, _, _, _, _, _, _, _, _, _, _, _, _, by rw [show pa.add 0 = pa.add (0 * 14) from rfl]; exact cells_part hc 0 (jR x.1) fun k v h => t_key h, ?_⟩
  have D1 := D.alloc (jR x.1) 32
  obtain ⟨q2, c2, w36, hap, hk36, D2⟩ := Ctx.app (P := Try.prog) (D1.pm [3, 0, 1, 2] rfl) 67 b67 (.some ⟨w6.heap.size, 0, none⟩ 1 1 (jR x.1) rfl (D1.blkCells fun k v h => by simpa using h)) (by rw [List.length_map]; omega) (jR_one _)
  have e1 : ((A ++ [x]).map Prod.fst).length = (A.map Prod.fst).length + 1 := by simp
  have e2 : ((A ++ [x]).map Prod.fst).flatMap jR = (A.map Prod.fst).flatMap jR ++ jR x.1 := by simp
  have D3 : Ctx F m w w36 [] m [rtB b { r with L := x :: B' } p, tsA p (x :: B'), jsA 32 (q2, c2) ((A ++ [x]).map Prod.fst)] := by
    unfold jsA slV
    rw [e1, e2]
    exact (D2.pk [2, 3, 0] [1] rfl).noL
  rw [List.length_map] at hap
  refine ⟨q2, _, c2, w36, hap, hk36.size, _, _, _, (rcell D3).1, by omega, by simp; omega, ?_⟩
  have D4 := slCut (D3.pm [1, 0, 2] rfl) 1 (by simp)
  rw [Addr.add_mid]
  have e3 : ((x :: B').flatMap tR).drop (1 * 14) = B'.flatMap tR := by rw [flat_drop tR_len]; rfl
  rw [e3] at D4
  have D5 := (D4.pm [1, 0, 2] rfl).store 0 [.slice (X.cutA p.1 p.2 1 14) B'.length (p.2 - 1)] (by simp)
  refine ⟨rfl, (D4.pm [1, 0, 2] rfl).there _ _ (by simp), ⟨A ++ [x], B', by rw [hAB]; simp, ?_, by simp, ?_⟩, ?_⟩
  · intro y hy
    rcases List.mem_append.1 hy with hy | hy
    · exact hA y hy
    · simp only [List.mem_singleton] at hy; subst hy; simp [P0, hx]
  · have D6 : Ctx F m w (w36.setCells b 0 [.slice (X.cutA p.1 p.2 1 14) B'.length (p.2 - 1)]) [] m (rtAs b { r with L := B' } (X.cutA p.1 p.2 1 14, p.2 - 1) ++ [jsA 32 (q2, c2) ((A ++ [x]).map Prod.fst)]) := D5
    exact Ctx.swap (rtI _ D6)
  · show r.L.length - (A.length + 1) + 1 ≤ r.L.length - A.length
    simp only [List.length_cons] at hlen; omega
theorem c_same (p p' : Sl) (l l' : List J) (hl : l.length ≤ 100000) : Ctr Try.prog 21 #[slV p l.length, slV p' l'.length] noMem [jsA 40 p l, jsA 32 p' l'] (fun _ : Unit => .bool (decide (l = l'))) (fun _ _ => True) (fun _ => [jsA 40 p l, jsA 32 p' l']) := by
  refine Ctr.mk fun w F m C _ => x_gemotlaw09_same _ _ _ _ _ _ w _ ?_
  by_cases hll : l.length = l'.length
  rotate_left
  · rw [if_pos (by simp; omega)]
    exact Ctr.ret (m' := m) (L := []) () (by rw [decide_eq_false (fun e => hll (by rw [e]))]) trivial C
  rw [if_neg (by simp; omega)]
  refine ⟨fun i w' L' => ∃ (j : Nat), i = j ∧ j ≤ l.length ∧ l.take j = l'.take j ∧ Ctx F m w w' [] m [jsA 40 p l, jsA 32 p' l'], fun i _ => (l.length - i).toNat, ⟨0, rfl, by omega, by simp, C⟩, ?_⟩
  clear C
  rintro i w4 L5 _ ⟨j, rfl, hj, he, D⟩
  by_cases hjl : j < l.length
  rotate_left
  · rw [if_neg (by simpa using hjl)]
    have : j = l.length := by omega
    subst this
    rw [List.take_length, hll, List.take_length] at he
    exact Ctr.ret (m' := m) (L := []) () (by rw [decide_eq_true he]) trivial D
  rw [if_pos (by simpa using hjl)]
  have hjl' : j < l'.length := by omega
  obtain ⟨pa, hpa, hc, hcb⟩ := js_elem D hjl
  obtain ⟨pb, hpb, hc', hcb'⟩ := js_elem D.swap hjl'
  obtain ⟨p1, p2⟩ := p
  obtain ⟨p1', p2'⟩ := p'
  simp only at hpa hpb
  subst hpa; subst hpb
  have h1' : ∀ k v, (jR l[j])[k]? = some v → (l.flatMap jR)[j * 13 + k]? = some v := fun k v h => flat_at jR_len _ _ hjl _ _ h
  have h2' : ∀ k v, (jR l'[j])[k]? = some v → (l'.flatMap jR)[j * 13 + k]? = some v := fun k v h => flat_at jR_len _ _ hjl' _ _ h
  have hf : ∀ {w'}, Ctx F m w w' [] m [jsA 40 (some pa, p2) l, jsA 32 (some pb, p2') l'] → FactsW [(pa.add (j * 13), jR l[j]), (pb.add (j * 13), jR l'[j])] w' [] := fun D =>
    D.slFact (j * 13) _ _ h1' (D.swap.slFact (j * 13) _ _ h2' (facts_nil _ _))
  refine ⟨_, hf D.noL, by omega, by simpa using hjl, ?_⟩
  rw [onSome_some]
  refine ⟨_, _, _, _, _, _, _, _, _, _, _, _, _, by rw [Int.toNat_natCast]; exact List.mem_cons_self, by omega, by simpa using hjl', ?_⟩
  rw [onSome_some]
  refine ⟨_, _, _, _, _, _, _, _, _, _, _, _, _, by rw [Int.toNat_natCast]; exact List.mem_cons_of_mem _ List.mem_cons_self, fun w35 h35 => ?_⟩
  refine (D.noL.hid0 h35).gives (c_Key l'[j].1) fun w37 k37 D => ⟨_, _, _, _, _, _, _, _, _, _, _, _, _, rfl, k37.size, hf D, ?_⟩
  rw [k_eq l[j].1 l'[j].1]
  by_cases hx : l[j] = l'[j]
  · rw [if_neg (by simp [hx])]
    refine ⟨⟨j + 1, w1 j (by omega), hjl, ?_, D⟩, ?_⟩
    · rw [List.take_succ_eq_append_getElem hjl, List.take_succ_eq_append_getElem hjl', he, hx]
    · rw [w1 j (by omega)]
      show ((l.length : Int) - ((j + 1 : Nat) : Int)).toNat + 1 ≤ ((l.length : Int) - (j : Int)).toNat
      omega
  · have hx' : ¬ l[j].1 = l'[j].1 := fun e => hx (Subtype.ext e)
    rw [if_pos (by simp [hx'])]
    exact Ctr.ret (m' := m) (L := []) () (by rw [decide_eq_false (fun e => hx (by simp [e]))]) trivial D
end Go.Proofs
namespace Go.Proofs
open Go X RowKit Go.Sort
/-! ### the document's Set -/
def aheadT (x y : T1) : Bool := decide (x.2 < y.2 ∨ (x.2 = y.2 ∧ x.1.1.num < y.1.1.num))
theorem c_ahead (x y : T1) : Gives Try.prog 39 #[.agg (tR x).toArray, .agg (tR y).toArray] (.bool (aheadT x y)) := by
  intro w
  refine x_gemotref09_ahead _ _ _ _ _ _ _ _ _ _ _ _ _ _ _ _ _ _ _ _ _ _ _ _ _ _ _ _ w _ ?_
  by_cases h : x.2 < y.2
  · rw [if_neg (by simp [h])]
    exact fun w1 h1 => ⟨by simp [aheadT, h], hid_below h1 (by simp) (Nat.le_refl _)⟩
  rw [if_pos (by simp [h])]
  by_cases he : x.2 = y.2
  rotate_left
  · rw [if_neg (by simp [he])]
    exact fun w1 h1 => ⟨by simp [aheadT, h, he], hid_below h1 (by simp) (Nat.le_refl _)⟩
  rw [if_pos (by simp [he])]
  intro w3 L4 h3 g3
  have A := at_start h3 g3
  refine (c_rCompare x.1.1 y.1.1 x.1.2 y.1.2).call fun w6 h6 => ⟨_, rfl, at_kept A h6, ?_, (at_call A (Nat.le_refl _) h6).bel⟩
  rw [k_cmp_num x.1.2 y.1.2]
  have hr := cmp2_rng x.1.1.num y.1.1.num
  by_cases hn : x.1.1.num < y.1.1.num
  · rw [cmp2_lt hn]; simp [aheadT, he, hn]
  · have : ¬ cmp2 x.1.1.num y.1.1.num < 0 := by unfold cmp2; rw [if_neg hn]; split <;> omega
    simp [aheadT, he, hn, this]
def pK : List T1 → T1 → Nat
  | [], _ => 0
  | x :: l, t => if aheadT x t then pK l t + 1 else 0
theorem pK_le : ∀ (l : List T1) (t : T1), pK l t ≤ l.length
  | [], t => Nat.le_refl _
  | x :: l, t => by unfold pK; split <;> simp; exact pK_le l t
theorem pK_eq {t : T1} : ∀ (l : List T1) (j : Nat), j ≤ l.length → (∀ i (hi : i < l.length), i < j → aheadT l[i] t = true) → (∀ h : j < l.length, aheadT l[j] t = false) → pK l t = j
  | [], j, hj, _, _ => by simp at hj; subst hj; rfl
  | x :: l, 0, hj, h1, h2 => by
    have := h2 (by simp)
    unfold pK; rw [if_neg (by simpa using this)]
  | x :: l, j + 1, hj, h1, h2 => by
    unfold pK
    have h0 := h1 0 (by simp) (by omega)
    rw [if_pos (by simpa using h0), pK_eq l j (by simpa using hj) (fun i hi hij => by have := h1 (i + 1) (by simpa using hi) (by omega); simpa using this) (fun h => by have := h2 (by simpa using h); simpa using this)]
def insT (L : List T1) (t : T1) : List T1 := (L.take (pK L t) ++ [t]) ++ L.drop (pK L t)
def rsetF (r : Rt) (d : J) (t : Int) : Int × Rt := if !decide (fI r.L d < r.L.length) && decide ((r.L.length : Int) ≥ r.most) then (11, r) else (0, { r with L := insT (rcancelF r d).2.L (d, t) })
theorem rc_most (r : Rt) (d : J) : (rcancelF r d).2.most = r.most := by unfold rcancelF; split <;> rfl
theorem rc_len (r : Rt) (d : J) : (rcancelF r d).2.L.length ≤ r.L.length := by
  unfold rcancelF; split
  · simp [outF]; omega
  · exact Nat.le_refl _
theorem c_rSet (b : Nat) (r : Rt) (d : J) (t : Int) (hll : r.L.length ≤ 100000) : Ctr Try.prog 16 #[.pointer (some ⟨b, 0, none⟩), jV d, .int .i64 t] noMem [rtA b r] (fun _ : Unit => .int .i64 (rsetF r d t).1) (fun _ _ => True) (fun _ => [rtA b (rsetF r d t).2]) := by
  refine Ctr.mk fun w F m C _ => x_rSet2 _ _ _ _ _ _ _ _ _ _ _ _ _ _ _ w _ ?_
  refine ⟨fun bo w' L' => ∃ (m' : Mem), bo = (!decide (fI r.L d < r.L.length) && decide ((r.L.length : Int) ≥ r.most)) ∧ Ctx F m w w' L' m' [rtA b r], ⟨[], facts_nil _ _, fun w3 L4 h3 g3 => ?_⟩, ?_⟩
  · refine (c_rfind b r d hll).call (As := []) (C.hidL h3 g3) trivial fun _ m2 w6 hk hm _ C => ⟨_, rfl, hk, facts_nil _ _, ?_⟩
    obtain ⟨p, C⟩ := rtO C
    have hfw : ∀ {w' L' m'} {As : List Asn}, Ctx F m w w' L' m' (rtB b r p :: As) → FactsW [(⟨b, 0, none⟩, [slV p r.L.length]), (⟨b, 1, none⟩, [.int .i64 r.most])] w' L' := fun C => C.blkFact1 0 _ rfl (C.blkFact1 1 _ rfl (facts_nil _ _))
    refine ⟨_, hfw C, (fun _ h => nomatch h), ?_⟩
    by_cases hkl : fI r.L d < r.L.length
    · have hfv : findV r.L d = fI r.L d := by rw [findV, if_pos hkl]
      rw [hfv, if_neg (by simp)]
      exact ⟨rfl, m2, by simp [hkl], rtI p C⟩
    · rw [if_pos (by rw [findV, if_neg hkl]; decide)]
      exact ⟨p.1, r.L.length, p.2, by simp [Addr.add_mid], r.most, by simp [Addr.add_mid], rfl, m2, by simp [hkl], rtI p C⟩
  clear C
  rintro bo w15 L16 _ ⟨m1, rfl, C⟩
  by_cases hfull : (!decide (fI r.L d < r.L.length) && decide ((r.L.length : Int) ≥ r.most)) = true
  · rw [if_pos hfull]
    have e : rsetF r d t = (11, r) := by rw [rsetF, if_pos hfull]
    rw [e]
    exact Ctr.ret (m' := m1) (L := L16) () rfl trivial C
  rw [if_neg hfull]
  have e : rsetF r d t = (0, { r with L := insT (rcancelF r d).2.L (d, t) }) := by rw [rsetF, if_neg hfull]
  rw [e]
  refine (c_rCancel b r d hll).call (As := []) C trivial fun _ m2 w18 hk hm2 _ C => ⟨_, rfl, hk, ?_⟩
  have hrl := rc_len r d
  have hrm := rc_most r d
  generalize hr' : (rcancelF r d).2 = r' at C hrl hrm ⊢
  clear e hfull hr'
  have hll' : r'.L.length ≤ 100000 := by omega
  have er : ({ r with L := insT r'.L (d, t) } : Rt) = { r' with L := insT r'.L (d, t) } := by rw [← hrm]
  rw [er]
  clear er
  refine ⟨fun n w' L' => n = (pK r'.L (d, t) : Int) ∧ Ctx F m w w' L' m2 [rtA b r'], fun w21 L22 h21 g21 => ?_, ?_⟩
  · obtain ⟨p, C⟩ := rtO C
    replace C := C.hidL h21 g21
    refine ⟨fun n w' L' => ∃ (j : Nat), n = j ∧ j ≤ r'.L.length ∧ (∀ i (hi : i < r'.L.length), i < j → aheadT r'.L[i] (d, t) = true) ∧ Ctx F m w w' L' m2 (rtAs b r' p), fun n _ => (r'.L.length - n).toNat, ⟨0, rfl, by omega, fun i hi h => by omega, C⟩, ?_⟩
    clear C h21 g21
    rintro n w26 L27 _ ⟨j, rfl, hj, hlt, D⟩
    by_cases hjl : j < r'.L.length
    rotate_left
    · refine ⟨[(⟨b, 0, none⟩, [slV p r'.L.length])], D.blkFact1 0 _ rfl (facts_nil _ _), _, _, _, by simp [Addr.add_mid]; exact ⟨rfl, rfl, rfl⟩, ?_⟩
      rw [if_neg (by simpa using hjl)]
      intro w32 L33 h32 g32
      exact ⟨rfl, rfl, by rw [pK_eq _ _ hj hlt (fun h => absurd h hjl)], rtI p (D.hidL h32 g32)⟩
    obtain ⟨pa, hpa, hc, hcb⟩ := ts_elem (D.pm [1, 0] rfl) hjl
    have h10' : ∀ k v, (tR r'.L[j])[k]? = some v → (r'.L.flatMap tR)[j * 14 + k]? = some v := fun k v h => flat_at tR_len _ _ hjl _ _ h
    obtain ⟨p1, p2⟩ := p
    simp only at hpa
    subst hpa
    have hfacts : ∀ {w' L'}, Ctx F m w w' L' m2 (rtAs b r' (some pa, p2)) → FactsW [(pa.add (j * 14), tR r'.L[j]), (⟨b, 0, none⟩, [.slice (some pa) r'.L.length p2])] w' L' := fun D =>
      (D.pm [1, 0] rfl).slFact (j * 14) _ _ h10' (D.blkFact1 0 _ rfl (facts_nil _ _))
    refine ⟨_, hfacts D, some pa, r'.L.length, p2, by simp [Addr.add_mid], ?_⟩
    rw [if_pos (by simpa using hjl)]
    refine ⟨some pa, r'.L.length, p2, by simp [Addr.add_mid], by omega, by simpa using hjl, ?_⟩
    rw [onSome_some]
    refine ⟨_, _, _, _, _, _, _, _, _, _, _, _, _, _, by rw [Int.toNat_natCast]; exact List.mem_cons_self, fun w52 L53 h52 g52 => ?_⟩
    refine (D.hidL h52 g52).gives (c_ahead r'.L[j] (d, t)) fun w55 k55 D => ⟨_, rfl, k55, hfacts D, ?_⟩
    cases ha : aheadT r'.L[j] (d, t) with
    | true =>
      rw [if_pos (by decide)]
      refine ⟨rfl, rfl, ⟨j + 1, w1 j (by omega), hjl, fun i hi hij => ?_, D⟩, ?_⟩
      · by_cases hi2 : i = j
        · subst hi2; exact ha
        · exact hlt i hi (by omega)
      · rw [w1 j (by omega)]
        show ((r'.L.length : Int) - ((j + 1 : Nat) : Int)).toNat + 1 ≤ ((r'.L.length : Int) - (j : Int)).toNat
        omega
    | false =>
      rw [if_neg (by decide)]
      exact ⟨rfl, rfl, by rw [pK_eq _ _ hj hlt (fun h => ha)], rtI _ D⟩
  clear C
  rintro n w58 L59 _ ⟨rfl, C⟩
  obtain ⟨p, C⟩ := rtO C
  replace C : Ctx F m w w58 L59 m2 (rtAs b r' p) := C
  have hcap := (Ctx.slCap C.swap).1
  have hkl := pK_le r'.L (d, t)
  have hfw : ∀ {w' L' m'} {As : List Asn}, Ctx F m w w' L' m' (rtB b r' p :: As) → FactsW [(⟨b, 0, none⟩, [slV p r'.L.length])] w' L' := fun C => C.blkFact1 0 _ rfl (facts_nil _ _)
  refine ⟨_, hfw C, p.1, r'.L.length, p.2, by simp [Addr.add_mid], by omega, by omega, p.1, r'.L.length, p.2, by simp [Addr.add_mid], by omega, by omega, ?_⟩
  rw [Int.toNat_natCast]
  have fin : ∀ {w' : World} {L' : List Nat} {As : List Asn} {q1 : Option Addr} {c1 : Nat}, Ctx F m w w' L' m2 (rtB b r' p :: tsA p r'.L :: tsA (q1, c1) (insT r'.L (d, t)) :: As) →
      FactsW [(⟨b, 0, none⟩, [slV p r'.L.length])] w' L' ∧ (((⟨b, 0, none⟩ : Addr).add 0).spot = none) ∧ World.there w' ((⟨b, 0, none⟩ : Addr).add 0).block ((⟨b, 0, none⟩ : Addr).add 0).off 1 ∧ (¬ ((⟨b, 0, none⟩ : Addr).add 0).block ∈ L') ∧
        ∃ i : Unit, ∃ m' L, (Ending.returned (.int .i64 0) = .returned (.int .i64 0)) ∧ True ∧ Ctx F m w (w'.setCells ((⟨b, 0, none⟩ : Addr).add 0).block ((⟨b, 0, none⟩ : Addr).add 0).off [.slice q1 (insT r'.L (d, t)).length c1]) L m' [rtA b { r' with L := insT r'.L (d, t) }] := by
    intro w' L' As q1 c1 C
    rw [Addr.add_mid]
    refine ⟨hfw C, rfl, C.there _ _ (by simp), C.blkAt.2, (), m2, L', rfl, trivial, ?_⟩
    have C2 := C.store 0 [slV (q1, c1) (insT r'.L (d, t)).length] (by simp)
    refine rtI (q1, c1) ?_
    have C3 : Ctx F m w _ L' m2 ([_, tsA (q1, c1) (insT r'.L (d, t))] ++ (tsA p r'.L :: As)) := C2.perm (List.Perm.cons _ (List.Perm.swap ..))
    exact C3.left
  have hl0 : ∀ (a0 : Nat) {w' L'} {As : List Asn}, Ctx F m w w' L' m2 (rtB b r' p :: tsA p r'.L :: As) → Ctx F m w w' L' m2 (rtB b r' p :: tsA p r'.L :: tsA (some ⟨a0, 0, none⟩, 0) [] :: As) := fun a0 {w' L' As} C =>
    (Ctx.slNil (q := some ⟨a0, 0, none⟩) (ty := 91) (sz := 14) C).perm ((List.Perm.swap ..).trans (List.Perm.cons _ (List.Perm.swap ..)))
  have hrow : ∀ {w' L'} {As : List Asn}, Ctx F m w w' L' m2 (rtB b r' p :: tsA p r'.L :: As) → Ctx F m w (w'.alloc (.cells (tR (d, t)).toArray 91)) L' m2 (rtB b r' p :: tsA p r'.L :: (As ++ [blk w'.heap.size (tR (d, t)) 91])) := fun C => (C.alloc (tR (d, t)) 91).rot
  have hrc : ∀ {w' L'} {a1 : Nat} {As : List Asn}, Ctx F m w w' L' m2 (As ++ [blk a1 (tR (d, t)) 91]) → Cells w' ⟨a1, 0, none⟩ (tR (d, t)) := fun C => (C.perm List.perm_append_comm).blkCells (o := 0) fun j v e => by simpa using e
  have one : ∀ {w' L'} {q : Option Addr} {c a1 : Nat} {out : List T1} {As : List Asn}, out.length ≤ 100001 → Ctx F m w w' L' m2 (rtB b r' p :: tsA p r'.L :: tsA (q, c) out :: As) → Cells w' ⟨a1, 0, none⟩ (tR (d, t)) →
      ∃ q1 c1 w2, (Builtin.append_ #[86, 86] 86 #[.slice q out.length c, .slice (some ⟨a1, 0, none⟩) 1 1]).run Try.prog w' = .ok (.slice q1 (out ++ [(d, t)]).length c1) w2 ∧ Kept L' w' w2 ∧ Ctx F m w w2 L' m2 (rtB b r' p :: tsA p r'.L :: tsA (q1, c1) (out ++ [(d, t)]) :: As) := by
    intro w' L' q c a1 out As ho C hc
    obtain ⟨q1, c1, w2, h1, h2, C2⟩ := app_one (d, t) ho C.third hc
    exact ⟨q1, c1, w2, h1, h2, C2.perm (List.Perm.trans (.swap ..) (List.Perm.cons _ (.swap ..)))⟩
  have htl : (r'.L.take (pK r'.L (d, t))).length ≤ 100001 := by rw [List.length_take]; omega
  have htl2 : (r'.L.take (pK r'.L (d, t)) ++ [(d, t)]).length ≤ 100001 := by rw [List.length_append, List.length_take]; simp; omega
  refine ⟨fun w67 L68 h67 g67 => ?_, fun w93 L94 h93 g93 => ?_⟩
  · have D0 := hl0 w67.heap.size ((C.hidL h67 g67).newDrop [] 91)
    refine ⟨hfw D0, ?_, ?_⟩
    · obtain ⟨q1, c1, w2, hr1, hk1, D1⟩ := app_take hll' (by simp) (pK r'.L (d, t)) hkl p.2 D0
      refine ⟨q1, _, c1, w2, hr1, hk1, hfw D1, ?_⟩
      have D2 := hrow D1
      refine ⟨hfw D2, ?_⟩
      rw [List.nil_append] at D2 ⊢
      obtain ⟨q2, c2, w3, hr2, hk2, D3⟩ := one htl D2 (hrc (As := [_, _, _]) D2)
      refine ⟨q2, _, c2, w3, hr2, hk2, hfw D3, ?_⟩
      obtain ⟨q3, c3, w4, hr3, hk3, D4⟩ := app_drop hll' htl2 (pK r'.L (d, t)) hkl (p.2 - pK r'.L (d, t)) D3
      exact ⟨q3, _, c3, w4, hr3, hk3, fin D4⟩
    · have D2 := hrow D0
      refine ⟨hfw D2, ?_⟩
      obtain ⟨q1, c1, w2, hr1, hk1, D1⟩ := app_take hll' (by simp) (pK r'.L (d, t)) hkl p.2 D2
      refine ⟨q1, _, c1, w2, hr1, hk1, hfw D1, ?_⟩
      rw [List.nil_append] at D1 ⊢
      obtain ⟨q2, c2, w3, hr2, hk2, D3⟩ := one htl D1 (hrc (As := [_, _, _]) D1)
      refine ⟨q2, _, c2, w3, hr2, hk2, hfw D3, ?_⟩
      obtain ⟨q3, c3, w4, hr3, hk3, D4⟩ := app_drop hll' htl2 (pK r'.L (d, t)) hkl (p.2 - pK r'.L (d, t)) D3
      exact ⟨q3, _, c3, w4, hr3, hk3, fin D4⟩
  · have D2 := hrow (C.hidL h93 g93)
    refine ⟨hfw D2, ?_⟩
    have D0 := hl0 (w93.alloc (.cells (tR (d, t)).toArray 91)).heap.size (D2.newDrop [] 91)
    refine ⟨hfw D0, ?_⟩
    obtain ⟨q1, c1, w2, hr1, hk1, D1⟩ := app_take hll' (by simp) (pK r'.L (d, t)) hkl p.2 D0
    refine ⟨q1, _, c1, w2, hr1, hk1, hfw D1, ?_⟩
    rw [List.nil_append] at D1 ⊢
    obtain ⟨q2, c2, w3, hr2, hk2, D3⟩ := one htl D1 (hrc (As := [_, _, _]) D1)
    refine ⟨q2, _, c2, w3, hr2, hk2, hfw D3, ?_⟩
    obtain ⟨q3, c3, w4, hr3, hk3, D4⟩ := app_drop hll' htl2 (pK r'.L (d, t)) hkl (p.2 - pK r'.L (d, t)) D3
    exact ⟨q3, _, c3, w4, hr3, hk3, fin D4⟩
end Go.Proofs
namespace Go.Proofs
open Go X RowKit Go.Sort
/-! ### the two wheels agree -/
theorem ah_iff {x y : T1} : aheadT x y = true ↔ (x.2 < y.2 ∨ (x.2 = y.2 ∧ x.1.1.num < y.1.1.num)) := by simp [aheadT]
theorem ah_trans {x y z : T1} (h1 : aheadT x y = true) (h2 : aheadT y z = true) : aheadT x z = true := by rw [ah_iff] at *; omega
theorem ah_tot {x y : T1} (h1 : ¬ aheadT x y = true) (hk : x.1 ≠ y.1) : aheadT y x = true := by
  rw [ah_iff] at *
  have : x.1.1.num ≠ y.1.1.num := fun e => hk (Subtype.ext (k_num_inj x.1.2 y.1.2 e))
  omega
abbrev Srt (L : List T1) : Prop := L.Pairwise fun x y => aheadT x y = true
theorem ins_lt {x t : T1} (L : List T1) (h : aheadT x t = true) : insT (x :: L) t = x :: insT L t := by simp [insT, pK, h]
theorem ins_ge {x t : T1} (L : List T1) (h : ¬ aheadT x t = true) : insT (x :: L) t = t :: x :: L := by simp [insT, pK, h]
theorem ins_perm : ∀ (L : List T1) (t : T1), (insT L t).Perm (t :: L)
  | [], t => by simp [insT, pK]
  | x :: L, t => by
    by_cases h : aheadT x t = true
    · rw [ins_lt L h]; exact ((ins_perm L t).cons x).trans (.swap ..)
    · rw [ins_ge L h]
theorem ins_srt {t : T1} : ∀ {L : List T1}, Srt L → t.1 ∉ L.map Prod.fst → Srt (insT L t)
  | [], _, _ => by simp [insT, pK, Srt]
  | x :: L, h, hd => by
    have hx := List.pairwise_cons.1 h
    simp only [List.map_cons, List.mem_cons, not_or] at hd
    by_cases hl : aheadT x t = true
    · rw [ins_lt L hl]
      refine List.pairwise_cons.2 ⟨fun y hy => ?_, ins_srt hx.2 hd.2⟩
      rcases List.mem_cons.1 ((ins_perm L t).mem_iff.1 hy) with e | hy
      · rw [e]; exact hl
      · exact hx.1 y hy
    · rw [ins_ge L hl]
      have htx : aheadT t x = true := ah_tot hl (fun e => hd.1 e.symm)
      refine List.pairwise_cons.2 ⟨fun y hy => ?_, h⟩
      rcases List.mem_cons.1 hy with e | hy
      · rw [e]; exact htx
      · exact ah_trans htx (hx.1 y hy)
theorem out_filter {d : J} : ∀ {L : List T1}, (L.map Prod.fst).Nodup → outF L d = L.filter fun y => !decide (y.1 = d)
  | [], _ => rfl
  | x :: L, h => by
    simp only [List.map_cons, List.nodup_cons] at h
    by_cases hx : x.1 = d
    · have e : outF (x :: L) d = L := by simp [outF, fI, hx]
      rw [e, List.filter_cons_of_neg (by simp [hx])]
      symm
      refine List.filter_eq_self.2 fun y hy => ?_
      have : ¬ y.1 = d := fun e2 => h.1 (by rw [hx, ← e2]; exact List.mem_map.2 ⟨y, hy, rfl⟩)
      simp [this]
    · have e : outF (x :: L) d = x :: outF L d := by simp [outF, fI, hx]
      rw [e, List.filter_cons_of_pos (by simp [hx]), out_filter h.2]
theorem mput_perm {α β : Type} [DecidableEq α] {x : α} {v : β} : ∀ {l : List (α × β)}, (X.mput x v l).Perm ((x, v) :: X.mdel x l)
  | [] => .refl _
  | (k, u) :: l => by
    rw [X.mput, X.mdel]
    by_cases hx : x = k
    · subst hx; rw [if_pos rfl, if_pos rfl]
    · rw [if_neg hx, if_neg hx]
      exact (mput_perm.cons _).trans (.swap ..)
structure Rel (s : Wh) (r : Rt) : Prop where
  most : s.most = r.most
  nd : (s.l.map Prod.fst).Nodup
  perm : s.l.Perm r.L
  srt : Srt r.L
section
variable {s : Wh} {r : Rt}
theorem Rel.nd' (h : Rel s r) : (r.L.map Prod.fst).Nodup := (h.perm.map Prod.fst).nodup_iff.1 h.nd
theorem Rel.len (h : Rel s r) : s.l.length = r.L.length := h.perm.length_eq
theorem Rel.some (h : Rel s r) (d : J) : (fnd d s.l).isSome = decide (fI r.L d < r.L.length) := by
  have hm : d ∈ s.l.map Prod.fst ↔ fI r.L d < r.L.length := by rw [fI_mem]; exact (h.perm.map Prod.fst).mem_iff
  cases hf : fnd d s.l with
  | none =>
    have := fnd_none.1 hf
    rw [decide_eq_false (fun e => this (hm.2 e))]; rfl
  | some u =>
    have : d ∈ s.l.map Prod.fst := List.mem_map.2 ⟨_, fnd_mem hf, rfl⟩
    rw [decide_eq_true (hm.1 this)]; rfl
theorem Rel.at_ (h : Rel s r) (d : J) (hk : fI r.L d < r.L.length) : atF s.l d = r.L[fI r.L d].2 := by
  have hm : r.L[fI r.L d] ∈ s.l := h.perm.mem_iff.2 (List.getElem_mem hk)
  have e := fI_at r.L hk
  have : (d, r.L[fI r.L d].2) ∈ s.l := by
    have e2 : r.L[fI r.L d] = (d, r.L[fI r.L d].2) := Prod.ext e rfl
    rw [← e2]; exact hm
  rw [atF, mem_fnd' h.nd this]; rfl
theorem Rel.no (h : Rel s r) (d : J) (hk : ¬ fI r.L d < r.L.length) : atF s.l d = 0 := by
  have := h.some d
  rw [decide_eq_false hk] at this
  rw [atF]
  cases hf : fnd d s.l with
  | none => rfl
  | some u => rw [hf] at this; cases this
theorem rc_filter (h : Rel s r) (d : J) : (rcancelF r d).2.L = r.L.filter fun y => !decide (y.1 = d) := by
  unfold rcancelF
  split
  · exact out_filter h.nd'
  · rename_i hk
    symm
    refine List.filter_eq_self.2 fun y hy => ?_
    have : ¬ y.1 = d := fun e => hk (fI_mem.2 (by rw [← e]; exact List.mem_map.2 ⟨y, hy, rfl⟩))
    simp [this]
theorem Rel.cancel (h : Rel s r) (d : J) : (cancelF s d).1 = (rcancelF r d).1 ∧ Rel (cancelF s d).2 (rcancelF r d).2 := by
  have hs := h.some d
  have hfil := rc_filter h d
  unfold cancelF rcancelF at *
  by_cases hk : fI r.L d < r.L.length
  · rw [decide_eq_true hk] at hs
    rw [if_pos hk] at hfil
    rw [hs, if_pos rfl, if_pos hk]
    refine ⟨rfl, h.most, mdel_nodup h.nd, ?_, ?_⟩
    · show (X.mdel d s.l).Perm (outF r.L d)
      rw [mdel_filter h.nd, out_filter h.nd']
      exact h.perm.filter _
    · show Srt (outF r.L d)
      rw [out_filter h.nd']
      exact h.srt.filter _
  · rw [decide_eq_false hk] at hs
    rw [hs, if_neg (by decide), if_neg hk]
    exact ⟨rfl, h⟩
theorem Rel.set (h : Rel s r) (d : J) (t : Int) : (setF s d t).1 = (rsetF r d t).1 ∧ Rel (setF s d t).2 (rsetF r d t).2 := by
  unfold setF rsetF
  rw [h.some d, h.len, h.most]
  split
  · exact ⟨rfl, h⟩
  · refine ⟨rfl, rfl, mput_nodup h.nd, ?_, ?_⟩
    · show (X.mput d t s.l).Perm (insT (rcancelF r d).2.L (d, t))
      rw [rc_filter h d]
      refine (mput_perm.trans ?_).trans (ins_perm _ _).symm
      rw [mdel_filter h.nd]
      exact (h.perm.filter _).cons _
    · show Srt (insT (rcancelF r d).2.L (d, t))
      rw [rc_filter h d]
      refine ins_srt (h.srt.filter _) fun hm => ?_
      obtain ⟨y, hy, e⟩ := List.mem_map.1 hm
      have := (List.mem_filter.1 hy).2
      simp at this
      exact this e
theorem srt_while {now : Int} : ∀ {L : List T1}, Srt L → (L.takeWhile fun x => decide (x.2 ≤ now)) = (L.filter fun x => decide (x.2 ≤ now)) ∧ (L.dropWhile fun x => decide (x.2 ≤ now)) = (L.filter fun x => decide (now < x.2))
  | [], _ => ⟨rfl, rfl⟩
  | x :: L, h => by
    have hx := List.pairwise_cons.1 h
    obtain ⟨i1, i2⟩ := srt_while (now := now) hx.2
    by_cases hn : x.2 ≤ now
    · rw [List.takeWhile_cons_of_pos (by simpa using hn), List.dropWhile_cons_of_pos (by simpa using hn), List.filter_cons_of_pos (by simpa using hn), List.filter_cons_of_neg (by simp; omega), i1, i2]
      exact ⟨rfl, rfl⟩
    · rw [List.takeWhile_cons_of_neg (by simpa using hn), List.dropWhile_cons_of_neg (by simpa using hn), List.filter_cons_of_neg (by simpa using hn), List.filter_cons_of_pos (by simp; omega)]
      have hy : ∀ y ∈ L, now < y.2 := fun y hy => by have := ah_iff.1 (hx.1 y hy); omega
      refine ⟨?_, ?_⟩
      · symm; exact List.filter_eq_nil_iff.2 fun y h => by have := hy y h; simp; omega
      · rw [List.filter_eq_self.2 fun y h => by simpa using hy y h]
theorem Rel.due (h : Rel s r) (now : Int) : dueF s now = (r.L.takeWhile fun x => decide (x.2 ≤ now)).map Prod.fst := by
  rw [(srt_while h.srt).1]
  refine sorted_one (totT s.l) ((sortBy_perm _ _).trans ((h.perm.filter _).map _)) (sortBy_sorted _ (swoT s.l) _) ?_
  refine List.Pairwise.map _ (R := fun x y => x ∈ r.L ∧ y ∈ r.L ∧ aheadT x y = true) ?_ ?_
  · rintro x y ⟨hx, hy, hxy⟩
    have ex := due_at (s := s) h.nd (x := x.1) (t := x.2) (h.perm.mem_iff.2 hx)
    have ey := due_at (s := s) h.nd (x := y.1) (t := y.2) (h.perm.mem_iff.2 hy)
    have : ¬ ltOf (cmpT s.l) y.1 x.1 = true := by
      rw [lt_T, ex, ey, decide_eq_true_eq]
      have := ah_iff.1 hxy
      omega
    simp only [ltOf, decide_eq_true_eq] at this
    omega
  · exact ((h.srt.filter _).imp_of_mem fun {x y} hx hy hxy => ⟨(List.mem_filter.1 hx).1, (List.mem_filter.1 hy).1, hxy⟩)
theorem Rel.rest (h : Rel s r) (now : Int) : Rel { s with l := delL (dueF s now) s.l } { r with L := r.L.dropWhile fun x => decide (x.2 ≤ now) } := by
  have e := due_rest (s := s) (now := now) h.nd
  refine ⟨h.most, ?_, ?_, ?_⟩
  · show ((delL (dueF s now) s.l).map Prod.fst).Nodup
    rw [e]; exact h.nd.sublist (List.filter_sublist.map _)
  · show (delL (dueF s now) s.l).Perm _
    rw [e, (srt_while h.srt).2]; exact h.perm.filter _
  · show Srt (r.L.dropWhile _)
    rw [(srt_while h.srt).2]; exact h.srt.filter _
theorem Rel.next (h : Rel s r) {v : Int × Bool} (hv : LeastOf s.l v) : headF r.L = .tuple #[.int .i64 v.1, .bool v.2] := by
  have hp := h.perm
  have hs := h.srt
  cases hL : r.L with
  | nil =>
    rw [hL] at hp
    have hn : s.l = [] := hp.eq_nil
    rcases hv with ⟨rfl, _⟩ | ⟨_, ⟨x, hx, _⟩, _⟩
    · rfl
    · rw [hn] at hx; cases hx
  | cons x l =>
    rw [hL] at hp hs
    have hx := List.pairwise_cons.1 hs
    rcases hv with ⟨_, hn⟩ | ⟨hb, ⟨y, hy, e⟩, hall⟩
    · rw [hn] at hp; have := hp.length_eq; simp at this
    · have h1 : v.1 ≤ x.2 := hall x (hp.mem_iff.2 (by simp))
      have h2 : x.2 ≤ y.2 := by
        rcases List.mem_cons.1 (hp.mem_iff.1 hy) with e2 | h2
        · rw [e2]; exact Int.le_refl _
        · have := ah_iff.1 (hx.1 y h2); omega
      have e3 : x.2 = v.1 := by omega
      show Value.tuple #[.int .i64 x.2, .bool true] = _
      rw [e3, hb]
end
theorem rel0 (a : Int) : Rel ⟨mostF a, []⟩ ⟨mostF a, []⟩ := ⟨rfl, by simp, .refl _, by simp [Srt]⟩
theorem rset_len (r : Rt) (d : J) (t : Int) : (rsetF r d t).2.L.length ≤ r.L.length + 1 := by
  unfold rsetF; split
  · exact Nat.le_succ _
  · have := (ins_perm (rcancelF r d).2.L (d, t)).length_eq
    have h2 := rc_len r d
    simp only [List.length_cons] at this
    simp only; omega
end Go.Proofs
namespace Go.Proofs
open Go X RowKit Go.Sort
theorem c_rNew (a : Int) : Ctr Try.prog 15 #[.int .i64 a] noMem [] (fun b : Nat => .pointer (some ⟨b, 0, none⟩)) (fun _ _ => True) (fun b => [rtA b ⟨mostF a, []⟩]) := by
  refine Ctr.mk fun w F m C _ => x_gemotref09_New _ w _ ?_
  have C2 := Ctx.slNil (q := none) (ty := 91) (sz := 14) (C.alloc [.slice none 0 0, .int .i64 (mostF a)] 88)
  exact Ctr.ret (m' := m) (L := []) _ rfl trivial (rtI (r := ⟨mostF a, []⟩) (none, 0) C2.swap)
theorem l_WheelPlays (w : World) (a : Int) (q : Option Addr) (c : Nat) (l : List Ac) (hs : MSrc (memOf w) 15 (.slice q l.length c) l.length (l.flatMap Ac.row)) :
    Calls Try.prog 5 #[.int .i64 a, .slice q l.length c] w (LawR w) := by
  refine x_gemotlaw09_WheelPlays _ _ _ _ w _ ?_
  have C := lawStart w
  by_cases h100 : l.length > 100
  · rw [if_neg (by simp; omega)]
    exact c_knows.call (As := []) C trivial fun _ m2 w2 hk _ _ C => ⟨_, rfl, hk.size, rfl, Ctx.at_ C⟩
  rw [if_pos (by simp; omega)]
  refine c_knows.call (As := []) C trivial fun _ m0 w5 hk hm0 _ C => ⟨_, rfl, hk.size, ?_⟩
  rw [if_neg (by decide)]
  refine (c_New a).call (As := []) C trivial fun b m1 w8 hk hm1 _ C => ⟨_, rfl, hk.size, ?_⟩
  refine (c_rNew a).call (As := [whA b ⟨mostF a, []⟩]) C trivial fun br m1' w11 hk hm1' _ C => ⟨_, rfl, hk.size, ?_⟩
  replace hs := ((hs.mono hm0).mono hm1).mono hm1'
  clear hm0 hm1 hk
  refine ⟨fun n w' L' => ∃ (i : Nat) (s : Wh) (r : Rt) (m : Mem), n = i ∧ i ≤ l.length ∧ Rel s r ∧ r.L.length ≤ i ∧ m1'.le m ∧ Ctx [] (memOf w) w w' [] m [whA b s, rtA br r], fun n _ => (l.length - n).toNat,
    ⟨0, _, _, m1', rfl, by omega, rel0 a, by simp, Mem.le_refl _, Ctx.swap C⟩, ?_⟩
  clear C
  rintro n w16 L17 _ ⟨i, s, r, m, rfl, hi, hrel, hri, hmm, C⟩
  by_cases hlt : i < l.length
  rotate_left
  · rw [if_neg (by simpa using hlt)]
    exact ⟨rfl, Ctx.at_ C⟩
  rw [if_pos (by simpa using hlt)]
  refine ⟨by omega, by simpa using hlt, ?_⟩
  obtain ⟨pa, rfl, hcell⟩ := (hs.mono hmm).elem ac_len hlt
  rw [onSome_some]
  refine ⟨_, _, _, _, _, _, _, _, _, _, _, _, _, _, _, C.cells hcell, ?_⟩
  clear hcell
  have hll : r.L.length ≤ 100000 := by omega
  have hsl : s.l.length ≤ 1000000 := by rw [hrel.len]; omega
  refine ⟨fun bo w' L' => ∃ (s : Wh) (r : Rt) (m : Mem), bo = true ∧ Rel s r ∧ r.L.length ≤ i + 1 ∧ m1'.le m ∧ Ctx [] (memOf w) w w' L' m [whA b s, rtA br r], ?_, ?_⟩
  · by_cases k0 : l[i].kd = 0
    · rw [if_pos (by simp [k0]), if_pos (by simp [k0])]
      refine ⟨[], facts_nil _ _, fun wa La ha ga => ?_⟩
      refine (C.hidL ha ga).gives (c_Key l[i].k.1) fun wb kb C => ⟨_, _, _, _, _, _, _, _, _, _, _, _, _, rfl, kb, facts_nil _ _, ?_⟩
      refine (c_Set b s l[i].k l[i].at_).call (As := [rtA br r]) C trivial fun _ m2 wc hk hm2 _ C => ⟨_, rfl, hk, facts_nil _ _, ?_⟩
      refine C.gives (c_num _) fun wd kd C => ⟨_, rfl, kd, facts_nil _ _, ?_⟩
      refine (c_rSet br r l[i].k l[i].at_ hll).call (As := [whA b (setF s l[i].k l[i].at_).2]) (Ctx.swap C) trivial fun _ m3 we hk hm3 _ C => ⟨_, rfl, hk, facts_nil _ _, rfl, ?_⟩
      obtain ⟨h1, h2⟩ := hrel.set l[i].k l[i].at_
      have h3 := rset_len r l[i].k l[i].at_
      exact ⟨_, _, m3, by rw [h1]; simp, h2, by omega, (hmm.le_trans hm2).le_trans hm3, Ctx.swap C⟩
    rw [if_neg (by simp [k0])]
    by_cases k1 : l[i].kd = 1
    · rw [if_pos (by simp [k1]), if_pos (by simp [k1])]
      refine ⟨[], facts_nil _ _, fun wa La ha ga => ?_⟩
      refine (C.hidL ha ga).gives (c_Key l[i].k.1) fun wb kb C => ⟨_, _, _, _, _, _, _, _, _, _, _, _, _, rfl, kb, facts_nil _ _, ?_⟩
      refine (c_Set b s l[i].k l[i].at_).call (As := [rtA br r]) C trivial fun _ m2 wc hk hm2 _ C => ⟨_, rfl, hk, facts_nil _ _, ?_⟩
      refine C.gives (c_num _) fun wd kd C => ⟨_, rfl, kd, facts_nil _ _, ?_⟩
      refine (c_rSet br r l[i].k l[i].at_ hll).call (As := [whA b (setF s l[i].k l[i].at_).2]) (Ctx.swap C) trivial fun _ m3 we hk hm3 _ C => ⟨_, rfl, hk, facts_nil _ _, rfl, ?_⟩
      obtain ⟨h1, h2⟩ := hrel.set l[i].k l[i].at_
      have h3 := rset_len r l[i].k l[i].at_
      exact ⟨_, _, m3, by rw [h1]; simp, h2, by omega, (hmm.le_trans hm2).le_trans hm3, Ctx.swap C⟩
    rw [if_neg (by simp [k1])]
    by_cases k2 : l[i].kd = 2
    · rw [if_pos (by simp [k2])]
      refine ⟨[], facts_nil _ _, fun wa La ha ga => ?_⟩
      refine (C.hidL ha ga).gives (c_Key l[i].k.1) fun wb kb C => ⟨_, _, _, _, _, _, _, _, _, _, _, _, _, rfl, kb, facts_nil _ _, ?_⟩
      refine (c_Set b s l[i].k l[i].at_).call (As := [rtA br r]) C trivial fun _ m2 wc hk hm2 _ C => ⟨_, rfl, hk, facts_nil _ _, ?_⟩
      refine C.gives (c_num _) fun wd kd C => ⟨_, rfl, kd, facts_nil _ _, ?_⟩
      refine (c_rSet br r l[i].k l[i].at_ hll).call (As := [whA b (setF s l[i].k l[i].at_).2]) (Ctx.swap C) trivial fun _ m3 we hk hm3 _ C => ⟨_, rfl, hk, facts_nil _ _, rfl, ?_⟩
      obtain ⟨h1, h2⟩ := hrel.set l[i].k l[i].at_
      have h3 := rset_len r l[i].k l[i].at_
      exact ⟨_, _, m3, by rw [h1]; simp, h2, by omega, (hmm.le_trans hm2).le_trans hm3, Ctx.swap C⟩
    rw [if_neg (by simp [k2])]
    by_cases k3 : l[i].kd = 3
    · rw [if_pos (by simp [k3])]
      refine ⟨[], facts_nil _ _, fun wa La ha ga => ?_⟩
      refine (C.hidL ha ga).gives (c_Key l[i].k.1) fun wb kb C => ⟨_, _, _, _, _, _, _, _, _, _, _, _, _, rfl, kb, facts_nil _ _, ?_⟩
      refine (c_Cancel b s l[i].k).call (As := [rtA br r]) C trivial fun _ m2 wc hk hm2 _ C => ⟨_, rfl, hk, facts_nil _ _, ?_⟩
      refine (c_rCancel br r l[i].k hll).call (As := [whA b (cancelF s l[i].k).2]) (Ctx.swap C) trivial fun _ m3 we hk hm3 _ C => ⟨_, rfl, hk, facts_nil _ _, rfl, ?_⟩
      obtain ⟨h1, h2⟩ := hrel.cancel l[i].k
      have h3 := rc_len r l[i].k
      exact ⟨_, _, m3, by rw [h1]; simp, h2, by omega, (hmm.le_trans hm2).le_trans hm3, Ctx.swap C⟩
    rw [if_neg (by simp [k3])]
    by_cases k4 : l[i].kd = 4
    · rw [if_pos (by simp [k4])]
      intro wa La ha ga
      refine (C.hidL ha ga).gives (c_Key l[i].k.1) fun wb kb C => ⟨_, _, _, _, _, _, _, _, _, _, _, _, _, rfl, kb, ?_⟩
      refine (c_At b s l[i].k).call (As := [rtA br r]) C trivial fun _ m2 wc hk hm2 _ C => ⟨_, _, rfl, hk, ?_⟩
      have hsome := hrel.some l[i].k
      refine (c_rAt br r l[i].k hll).call (As := [whA b s]) (Ctx.swap C) trivial fun _ m3 we hk hm3 _ C => ?_
      by_cases hkl : fI r.L l[i].k < r.L.length
      · rw [dif_pos hkl]
        exact ⟨_, _, rfl, hk, rfl, s, r, m3, by rw [hsome, hrel.at_ l[i].k hkl]; simp [hkl], hrel, by omega, (hmm.le_trans hm2).le_trans hm3, Ctx.swap C⟩
      · rw [dif_neg hkl]
        exact ⟨_, _, rfl, hk, rfl, s, r, m3, by rw [hsome, hrel.no l[i].k hkl]; simp [hkl], hrel, by omega, (hmm.le_trans hm2).le_trans hm3, Ctx.swap C⟩
    rw [if_neg (by simp [k4])]
    by_cases k5 : l[i].kd = 5
    · rw [if_pos (by simp [k5])]
      refine ⟨[], facts_nil _ _, fun wa La ha ga => ?_⟩
      refine (c_Due b s hsl l[i].at_).call (As := [rtA br r]) (C.hidL ha ga) trivial fun v1 m2 wb hk hm2 _ C => ⟨_, _, _, rfl, hk, facts_nil _ _, ?_⟩
      refine (c_rDue br r l[i].at_ hll).call (As := [jsA 40 v1 (dueF s l[i].at_), whA b { s with l := delL (dueF s l[i].at_) s.l }]) (C.pm [2, 0, 1] rfl) trivial fun v2 m3 wc hk hm3 _ C => ⟨_, _, _, rfl, hk, facts_nil _ _, ?_⟩
      have hdue := hrel.due l[i].at_
      have hdl : (dueF s l[i].at_).length ≤ 100000 := by have := dueF_len s l[i].at_; have := hrel.len; omega
      have CS := c_same v1 v2 (dueF s l[i].at_) ((r.L.takeWhile fun x => decide (x.2 ≤ l[i].at_)).map Prod.fst) hdl
      have el : ((r.L.takeWhile fun x => decide (x.2 ≤ l[i].at_)).map Prod.fst).length = (r.L.takeWhile fun x => decide (x.2 ≤ l[i].at_)).length := List.length_map ..
      rw [el] at CS
      refine CS.call (As := [rtA br { r with L := r.L.dropWhile fun x => decide (x.2 ≤ l[i].at_) }, whA b { s with l := delL (dueF s l[i].at_) s.l }]) ((Ctx.pm C [2, 0, 1, 3] rfl)) trivial fun _ m4 wd hk hm4 _ C => ⟨_, rfl, hk, facts_nil _ _, rfl, ?_⟩
      have hlen2 : (r.L.dropWhile fun x => decide (x.2 ≤ l[i].at_)).length ≤ r.L.length := (List.dropWhile_sublist _).length_le
      exact ⟨_, _, m4, by rw [hdue]; simp, hrel.rest l[i].at_, by simp only; omega, ((hmm.le_trans hm2).le_trans hm3).le_trans hm4, Ctx.pk C [3, 2] [0, 1] rfl⟩
    rw [if_neg (by simp [k5])]
    by_cases k6 : l[i].kd = 6
    · rw [if_pos (by simp [k6])]
      intro wa La ha ga
      refine (c_Next b s).call (As := [rtA br r]) (C.hidL ha ga) trivial fun v m2 wb hk hm2 hv C => ⟨_, _, rfl, hk, ?_⟩
      refine (c_rNext br r).call (As := [whA b s]) (Ctx.swap C) trivial fun _ m3 wc hk hm3 _ C => ?_
      rw [hrel.next hv]
      exact ⟨_, _, rfl, hk, rfl, s, r, m3, by simp, hrel, by omega, (hmm.le_trans hm2).le_trans hm3, Ctx.swap C⟩
    rw [if_neg (by simp [k6])]
    exact fun wa La ha ga => ⟨rfl, s, r, m, rfl, hrel, by omega, hmm, C.hidL ha ga⟩
  clear hrel hri hmm C hll hsl
  rintro bo w348 L349 _ ⟨s, r, m, rfl, hrel, hri, hmm, C⟩
  rw [if_pos (by decide)]
  refine (c_Len b s).call (As := [rtA br r]) C trivial fun _ m2 w351 hk hm2 _ C => ⟨_, rfl, hk, ?_⟩
  refine (c_rLen br r).call (As := [whA b s]) (Ctx.swap C) trivial fun _ m3 w354 hk hm3 _ C => ⟨_, rfl, hk, ?_⟩
  rw [if_neg (by rw [hrel.len]; simp), w1 i (by omega)]
  exact ⟨⟨i + 1, s, r, m3, rfl, hlt, hrel, hri, (hmm.le_trans hm2).le_trans hm3, Ctx.noL (Ctx.swap C)⟩, Nat.le_of_eq (by show ((l.length : Int) - ((i + 1 : Nat) : Int)).toNat + 1 = ((l.length : Int) - (i : Int)).toNat; omega)⟩
end Go.Proofs
