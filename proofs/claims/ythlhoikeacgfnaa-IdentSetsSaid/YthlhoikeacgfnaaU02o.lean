import Derived.Test.YthlhoikeacgfnaaU02n
set_option linter.unusedVariables false
set_option linter.unusedSimpArgs false
set_option maxRecDepth 10000
namespace Go.Proofs
open Go X RowKit Go.Sort
/-! ### the document's set -/
abbrev Sl := Option Addr × Nat
abbrev slV (p : Sl) (n : Nat) : Value := .slice p.1 n p.2
abbrev jsA (ty : TypeId) (p : Sl) (L : List J) : Asn := slA (slV p L.length) L.length (L.flatMap jR) ty 10
structure Rt where (most : Int) (L : List J)
abbrev rtB (b : Nat) (r : Rt) (p : Sl) : Asn := blk b [slV p r.L.length, .int .i64 r.most] 75
abbrev rtAs (b : Nat) (r : Rt) (p : Sl) : List Asn := [rtB b r p, jsA 30 p r.L]
def rtA (b : Nat) (r : Rt) : Asn := Asn.ex fun y : Sl => Asn.all (rtAs b r y)
section
variable {F0 : List Nat} {m0 : Mem} {w0 w : World} {L : List Nat} {m : Mem} {As : List Asn}
theorem rtO {b : Nat} {r : Rt} (C : Ctx F0 m0 w0 w L m (rtA b r :: As)) : ∃ p, Ctx F0 m0 w0 w L m (rtAs b r p ++ As) := by
  obtain ⟨p, C⟩ := C.ex
  exact ⟨p, C.all⟩
theorem rtI {b : Nat} {r : Rt} (p : Sl) (C : Ctx F0 m0 w0 w L m (rtAs b r p ++ As)) : Ctx F0 m0 w0 w L m (rtA b r :: As) := Ctx.exI p (Ctx.allI C)
theorem js_elem {l : List J} {p : Sl} {ty : TypeId} (C : Ctx F0 m0 w0 w L m (jsA ty p l :: As)) {j : Nat} (hj : j < l.length) :
    ∃ a, p.1 = some a ∧ Cells w (a.add (j * 10)) (jR l[j]) ∧ (a.add (j * 10)).block ∉ L := by
  have hc := C.slCells
  have hne : l.flatMap jR ≠ [] := fun e => by
    have := flat_len jR_len l
    rw [e] at this
    simp at this; omega
  cases hp : p.1 with
  | none => exact absurd (hc.2 hp) hne
  | some a =>
    obtain ⟨h1, h2⟩ := hc.1 a hp
    exact ⟨a, rfl, cells_elem jR_len h1 j hj, by rw [addr_block]; exact h2 hne⟩
end
def fK : List J → J → Nat
  | [], _ => 0
  | x :: l, d => if x.1.num < d.1.num then fK l d + 1 else 0
theorem fK_le : ∀ (l : List J) (d : J), fK l d ≤ l.length
  | [], d => Nat.le_refl _
  | x :: l, d => by unfold fK; split <;> simp; exact fK_le l d
theorem fK_eq {d : J} : ∀ (l : List J) (j : Nat), j ≤ l.length → (∀ i (hi : i < l.length), i < j → l[i].1.num < d.1.num) → (∀ h : j < l.length, ¬ l[j].1.num < d.1.num) → fK l d = j
  | [], j, hj, _, _ => by simp at hj; subst hj; rfl
  | x :: l, 0, hj, h1, h2 => by
    have := h2 (by simp)
    unfold fK; rw [if_neg (by simpa using this)]
  | x :: l, j + 1, hj, h1, h2 => by
    unfold fK
    have h0 := h1 0 (by simp) (by omega)
    rw [if_pos (by simpa using h0), fK_eq l j (by simpa using hj) (fun i hi hij => by have := h1 (i + 1) (by simpa using hi) (by omega); simpa using this) (fun h => by have := h2 (by simpa using h); simpa using this)]
def rhas (l : List J) (d : J) : Bool := decide (l[fK l d]? = some d)
theorem i_eq (x d : I) : (((x.n == d.n) && (x.l == d.l)) && ((x.s == d.s) && ((x.d == d.d) && (((x.g0 == d.g0) && (x.i0 == d.i0)) && (((x.g1 == d.g1) && (x.i1 == d.i1)) && ((x.g2 == d.g2) && (x.i2 == d.i2))))))) = decide (x = d) := by
  rw [Bool.eq_iff_iff, decide_eq_true_eq]
  simp only [Bool.and_eq_true, beq_iff_eq]
  constructor
  · rintro ⟨⟨h1, h2⟩, h3, h4, ⟨h5, h6⟩, ⟨h7, h8⟩, h9, h10⟩
    exact I.ext' ⟨h1, h2, h3, h4, h5, h6, h7, h8, h9, h10⟩
  · rintro rfl; exact ⟨⟨rfl, rfl⟩, rfl, rfl, ⟨rfl, rfl⟩, ⟨rfl, rfl⟩, rfl, rfl⟩
theorem c_rfind (b : Nat) (r : Rt) (d : J) (hll : r.L.length ≤ 100000) : Ctr Try.prog 37 #[.pointer (some ⟨b, 0, none⟩), jV d] noMem [rtA b r] (fun _ : Unit => .tuple #[.int .i64 (fK r.L d), .bool (rhas r.L d)]) (fun _ _ => True) (fun _ => [rtA b r]) := by
  refine Ctr.mk fun w F m C _ => x_gemotref02_Set_Find _ _ _ _ _ _ _ _ _ _ _ w _ fun w1 L2 h1 g1 => ?_
  obtain ⟨p, C⟩ := rtO C
  replace C := C.hidL h1 g1
  refine ⟨fun n w' L' => ∃ (j : Nat), n = j ∧ j ≤ r.L.length ∧ (∀ i (hi : i < r.L.length), i < j → r.L[i].1.num < d.1.num) ∧ Ctx F m w w' L' m (rtAs b r p), fun n _ => (r.L.length - n).toNat, ⟨0, rfl, by omega, fun i hi h => by omega, C⟩, ?_⟩
  clear C h1 g1
  rintro n w6 L7 _ ⟨j, rfl, hj, hlt, D⟩
  have hcell : ∀ {w' L'}, Ctx F m w w' L' m (rtAs b r p) → w'.cell? ((⟨b, 0, none⟩ : Addr).add 0) = some (slV p r.L.length) ∧ ((⟨b, 0, none⟩ : Addr).add 0).block ∉ L' := fun D => ⟨by rw [Addr.add_mid]; exact D.blkCell (j := 0) rfl, by rw [addr_block]; exact D.blkAt.2⟩
  by_cases hjl : j < r.L.length
  rotate_left
  · have hk : fK r.L d = j := fK_eq _ _ hj hlt (fun h => absurd h hjl)
    have hf : rhas r.L d = false := by rw [rhas, hk, List.getElem?_eq_none (by omega)]; rfl
    refine ⟨[(⟨b, 0, none⟩, [slV p r.L.length])], D.blkFact1 0 _ rfl (facts_nil _ _), _, _, _, by simp [Addr.add_mid]; exact ⟨rfl, rfl, rfl⟩, ?_⟩
    rw [if_neg (by simpa using hjl)]
    refine ⟨_, _, _, (hcell D).1, (hcell D).2, ?_⟩
    rw [if_neg (by simpa using hjl)]
    intro w15 h15
    exact Ctr.ret () (by rw [hk, hf]) trivial (rtI p (D.hid0 h15))
  obtain ⟨pa, hpa, hc, hcb⟩ := js_elem (D.pm [1, 0] rfl) hjl
  have h10' : ∀ k v, (jR r.L[j])[k]? = some v → (r.L.flatMap jR)[j * 10 + k]? = some v := fun k v h => flat_at jR_len _ _ hjl _ _ h
  obtain ⟨p1, p2⟩ := p
  simp only at hpa
  subst hpa
  have hfacts : ∀ {w' L'}, Ctx F m w w' L' m (rtAs b r (some pa, p2)) → FactsW [(pa.add (j * 10), jR r.L[j]), (⟨b, 0, none⟩, [.slice (some pa) r.L.length p2])] w' L' := fun D =>
    (D.pm [1, 0] rfl).slFact (j * 10) _ _ h10' (D.blkFact1 0 _ rfl (facts_nil _ _))
  refine ⟨_, hfacts D, some pa, r.L.length, p2, by simp [Addr.add_mid], ?_⟩
  rw [if_pos (by simpa using hjl)]
  refine ⟨some pa, r.L.length, p2, by simp [Addr.add_mid], by omega, by simpa using hjl, ?_⟩
  rw [onSome_some]
  refine ⟨_, _, _, _, _, _, _, _, _, _, by rw [Int.toNat_natCast]; exact List.mem_cons_self, fun w45 L46 h45 g45 => ?_⟩
  replace D := D.hidL h45 g45
  refine D.gives (c_ref_Compare _ d.1 r.L[j].2 d.2) fun w48 k48 D => ⟨_, rfl, k48, hfacts D, ?_⟩
  rw [cmp_num _ _ r.L[j].2 d.2]
  by_cases hn : r.L[j].1.num < d.1.num
  · rw [if_pos (by rw [cmp2_lt hn]; rfl)]
    have e : IntKind.wrap .i64 ((j : Int) + 1) = ((j + 1 : Nat) : Int) := by rw [w_i64 (by omega) (by omega)]; omega
    rw [e]
    refine ⟨rfl, ⟨j + 1, rfl, hjl, fun i hi hij => ?_, D⟩, Nat.le_of_eq (by show ((r.L.length : Int) - ((j + 1 : Nat) : Int)).toNat + 1 = ((r.L.length : Int) - (j : Int)).toNat; omega)⟩
    by_cases hi2 : i = j
    · subst hi2; exact hn
    · exact hlt i hi (by omega)
  · have hnn : ¬ (true && decide (cmp2 r.L[j].1.num d.1.num < 0)) = true := by
      have : ¬ cmp2 r.L[j].1.num d.1.num < 0 := by unfold cmp2; rw [if_neg hn]; split <;> omega
      simpa using this
    rw [if_neg hnn]
    have hk : fK r.L d = j := fK_eq _ _ hj hlt (fun h => hn)
    refine ⟨_, _, _, (hcell D).1, (hcell D).2, ?_⟩
    rw [if_pos (by simpa using hjl)]
    refine ⟨_, _, _, (hcell D).1, (hcell D).2, by omega, by simpa using hjl, ?_⟩
    rw [onSome_some]
    have hc2 := (js_elem (D.pm [1, 0] rfl) hjl)
    obtain ⟨pa', hpa', hc2, hcb2⟩ := hc2
    obtain rfl : pa = pa' := by simpa using hpa'
    refine ⟨_, _, _, _, _, _, _, _, _, _, by rw [Int.toNat_natCast]; exact hc2, by rw [Int.toNat_natCast]; exact hcb2, fun w68 h68 => ?_⟩
    refine Ctr.ret () ?_ trivial (rtI _ (D.hid0 h68))
    rw [Bool.true_and, i_eq, hk, rhas, hk, List.getElem?_eq_getElem hjl]
    by_cases he : r.L[j] = d
    · simp [he]
    · have : ¬ r.L[j].1 = d.1 := fun e => he (Subtype.ext e)
      simp [he, this]
section
variable {F0 : List Nat} {m0 : Mem} {w0 w : World} {L : List Nat} {m : Mem} {As : List Asn} {A0 : Asn}
theorem b73 : appB Try.prog 73 73 30 10 64 = true := by kernel_rfl
theorem js_one (l : List J) : ∀ u ∈ l.flatMap jR, oneC u = true := flat_one jR_one l
/-- parts of an owned slice, put behind another's -/
theorem app_take {p : Sl} {l out : List J} {q : Option Addr} {c : Nat} (hl : l.length ≤ 100000) (ho : out.length ≤ 100001) (k : Nat) (hk : k ≤ l.length) (c2 : Nat) (C : Ctx F0 m0 w0 w L m (A0 :: jsA 30 p l :: jsA 30 (q, c) out :: As)) :
    ∃ q1 c1 w2, (Builtin.append_ #[73, 73] 73 #[.slice q out.length c, .slice (cutA p.1 p.2 0 10) k c2]).run Try.prog w = .ok (.slice q1 (out ++ l.take k).length c1) w2 ∧ Kept L w w2 ∧ Ctx F0 m0 w0 w2 L m (A0 :: jsA 30 p l :: jsA 30 (q1, c1) (out ++ l.take k) :: As) := by
  have hs := Ctx.srcTake C.swap k hk c2
  rw [flat_take jR_len] at hs
  obtain ⟨q1, c1, w2, hr, hkk, C2⟩ := Ctx.app (P := Try.prog) C.third 73 b73 hs (by omega) (js_one _)
  have e1 : (out ++ l.take k).length = out.length + k := by rw [List.length_append, List.length_take]; omega
  have e2 : (out ++ l.take k).flatMap jR = out.flatMap jR ++ (l.take k).flatMap jR := by simp
  refine ⟨q1, c1, w2, by rw [e1]; exact hr, hkk, ?_⟩
  unfold jsA slV
  rw [e1, e2]
  exact C2.perm (List.Perm.trans (.swap ..) (List.Perm.cons _ (.swap ..)))
theorem app_drop {p : Sl} {l out : List J} {q : Option Addr} {c : Nat} (hl : l.length ≤ 100000) (ho : out.length ≤ 100001) (k : Nat) (hk : k ≤ l.length) (c2 : Nat) (C : Ctx F0 m0 w0 w L m (A0 :: jsA 30 p l :: jsA 30 (q, c) out :: As)) :
    ∃ q1 c1 w2, (Builtin.append_ #[73, 73] 73 #[.slice q out.length c, .slice (cutA p.1 p.2 k 10) (l.length - k) c2]).run Try.prog w = .ok (.slice q1 (out ++ l.drop k).length c1) w2 ∧ Kept L w w2 ∧ Ctx F0 m0 w0 w2 L m (A0 :: jsA 30 p l :: jsA 30 (q1, c1) (out ++ l.drop k) :: As) := by
  have hs := Ctx.srcDrop C.swap k hk c2
  rw [flat_drop jR_len] at hs
  obtain ⟨q1, c1, w2, hr, hkk, C2⟩ := Ctx.app (P := Try.prog) C.third 73 b73 hs (by omega) (js_one _)
  have e1 : (out ++ l.drop k).length = out.length + (l.length - k) := by rw [List.length_append, List.length_drop]
  have e2 : (out ++ l.drop k).flatMap jR = out.flatMap jR ++ (l.drop k).flatMap jR := by simp
  refine ⟨q1, c1, w2, by rw [e1]; exact hr, hkk, ?_⟩
  unfold jsA slV
  rw [e1, e2]
  exact C2.perm (List.Perm.trans (.swap ..) (List.Perm.cons _ (.swap ..)))
theorem app_one {out : List J} {q : Option Addr} {c : Nat} (x : J) {a1 : Nat} (ho : out.length ≤ 100001) (C : Ctx F0 m0 w0 w L m (jsA 30 (q, c) out :: As)) (hc : Cells w ⟨a1, 0, none⟩ (jR x)) :
    ∃ q1 c1 w2, (Builtin.append_ #[73, 73] 73 #[.slice q out.length c, .slice (some ⟨a1, 0, none⟩) 1 1]).run Try.prog w = .ok (.slice q1 (out ++ [x]).length c1) w2 ∧ Kept L w w2 ∧ Ctx F0 m0 w0 w2 L m (jsA 30 (q1, c1) (out ++ [x]) :: As) := by
  obtain ⟨q1, c1, w2, hr, hkk, C2⟩ := Ctx.app (P := Try.prog) C 73 b73 (.some _ 1 1 (jR x) rfl hc) (by omega) (jR_one _)
  have e1 : (out ++ [x]).length = out.length + 1 := by simp
  have e2 : (out ++ [x]).flatMap jR = out.flatMap jR ++ jR x := by simp
  refine ⟨q1, c1, w2, by rw [e1]; exact hr, hkk, ?_⟩
  unfold jsA slV
  rw [e1, e2]
  exact C2
end
def insR (L : List J) (d : J) : List J := (L.take (fK L d) ++ [d]) ++ L.drop (fK L d)
def delR (L : List J) (d : J) : List J := L.take (fK L d) ++ L.drop (fK L d + 1)
def addR (r : Rt) (d : J) : Int × Rt := if d.1.right then (if rhas r.L d then (4, r) else if (r.L.length : Int) ≥ (if r.most > 0 then r.most else 0) then (11, r) else (0, { r with L := insR r.L d })) else (1, r)
def removeR (r : Rt) (d : J) : Bool × Rt := if rhas r.L d then (true, { r with L := delR r.L d }) else (false, r)
theorem c_rAdd (b : Nat) (r : Rt) (d : J) (hll : r.L.length ≤ 100000) : Ctr Try.prog 35 #[.pointer (some ⟨b, 0, none⟩), jV d] noMem [rtA b r] (fun _ : Unit => .int .i64 (addR r d).1) (fun _ _ => True) (fun _ => [rtA b (addR r d).2]) := by
  refine Ctr.mk fun w F m C _ => x_gemotref02_Set_Add _ _ _ _ _ _ _ _ _ _ _ w _ fun w1 L2 h1 g1 => ?_
  refine (C.hidL h1 g1).gives (c_ref_Right d.1 d.2) fun w4 k4 C => ⟨_, rfl, k4, ?_⟩
  cases hright : d.1.right with
  | false =>
    rw [if_pos (by decide)]
    have e : addR r d = (1, r) := by simp [addR, hright]
    rw [e]; exact Ctr.ret () rfl trivial C
  | true =>
  rw [if_neg (by decide)]
  refine (c_rfind b r d hll).call (As := []) C trivial fun _ m2 w7 hk hm _ C => ⟨_, _, rfl, hk, ?_⟩
  cases hh : rhas r.L d with
  | true =>
    rw [if_pos rfl]
    have e : addR r d = (4, r) := by simp [addR, hright, hh]
    rw [e]; exact Ctr.ret () rfl trivial C
  | false =>
  rw [if_neg (by decide)]
  obtain ⟨p, C⟩ := rtO C
  replace C : Ctx F m w w7 L2 m2 (rtAs b r p) := C
  have hcell : ∀ {w' L' m'} {As : List Asn}, Ctx F m w w' L' m' (rtB b r p :: As) → w'.cell? ((⟨b, 0, none⟩ : Addr).add 0) = some (slV p r.L.length) ∧ ((⟨b, 0, none⟩ : Addr).add 0).block ∉ L' := fun D => ⟨by rw [Addr.add_mid]; exact D.blkCell (j := 0) rfl, by rw [addr_block]; exact D.blkAt.2⟩
  refine ⟨_, _, _, (hcell C).1, (hcell C).2, r.most, by rw [Addr.add_mid]; exact C.blkCell (j := 1) rfl, C.blkAt.2, ?_⟩
  by_cases hfull : (r.L.length : Int) ≥ (if r.most > 0 then r.most else 0)
  · rw [if_pos (by simpa using hfull)]
    have e : addR r d = (11, r) := by simp [addR, hright, hh, hfull]
    rw [e]
    intro w61 h61
    exact Ctr.ret () rfl trivial (rtI p (C.hid0 h61))
  rw [if_neg (by simpa using hfull)]
  have e : addR r d = (0, { r with L := insR r.L d }) := by simp [addR, hright, hh, hfull]
  rw [e]
  have hcap := (Ctx.slCap C.swap).1
  have hkl := fK_le r.L d
  have hfw : ∀ {w' L' m'} {As : List Asn}, Ctx F m w w' L' m' (rtB b r p :: As) → FactsW [(⟨b, 0, none⟩, [slV p r.L.length])] w' L' := fun C => C.blkFact1 0 _ rfl (facts_nil _ _)
  refine ⟨_, hfw C, p.1, r.L.length, p.2, by simp [Addr.add_mid], by omega, by omega, p.1, r.L.length, p.2, by simp [Addr.add_mid], by omega, by omega, ?_⟩
  rw [Int.toNat_natCast]
  have fin : ∀ {w' : World} {L' : List Nat} {As : List Asn} {q1 : Option Addr} {c1 : Nat}, Ctx F m w w' L' m2 (rtB b r p :: jsA 30 p r.L :: jsA 30 (q1, c1) (insR r.L d) :: As) →
      FactsW [(⟨b, 0, none⟩, [slV p r.L.length])] w' L' ∧ (((⟨b, 0, none⟩ : Addr).add 0).spot = none) ∧ World.there w' ((⟨b, 0, none⟩ : Addr).add 0).block ((⟨b, 0, none⟩ : Addr).add 0).off 1 ∧ (¬ ((⟨b, 0, none⟩ : Addr).add 0).block ∈ L') ∧
        ∃ i : Unit, ∃ m' L, (Ending.returned (.int .i64 0) = .returned (.int .i64 0)) ∧ True ∧ Ctx F m w (w'.setCells ((⟨b, 0, none⟩ : Addr).add 0).block ((⟨b, 0, none⟩ : Addr).add 0).off [.slice q1 (insR r.L d).length c1]) L m' [rtA b { r with L := insR r.L d }] := by
    intro w' L' As q1 c1 C
    rw [Addr.add_mid]
    refine ⟨hfw C, rfl, C.there _ _ (by simp), C.blkAt.2, (), m2, L', rfl, trivial, ?_⟩
    have C2 := C.store 0 [slV (q1, c1) (insR r.L d).length] (by simp)
    refine rtI (q1, c1) ?_
    have C3 : Ctx F m w _ L' m2 ([_, jsA 30 (q1, c1) (insR r.L d)] ++ (jsA 30 p r.L :: As)) := C2.perm (List.Perm.cons _ (List.Perm.swap ..))
    exact C3.left
  have hl0 : ∀ (a0 : Nat) {w' L'} {As : List Asn}, Ctx F m w w' L' m2 (rtB b r p :: jsA 30 p r.L :: As) → Ctx F m w w' L' m2 (rtB b r p :: jsA 30 p r.L :: jsA 30 (some ⟨a0, 0, none⟩, 0) [] :: As) := fun a0 {w' L' As} C =>
    (Ctx.slNil (q := some ⟨a0, 0, none⟩) (ty := 30) (sz := 10) C).perm ((List.Perm.swap ..).trans (List.Perm.cons _ (List.Perm.swap ..)))
  have hrow : ∀ {w' L'} {As : List Asn}, Ctx F m w w' L' m2 (rtB b r p :: jsA 30 p r.L :: As) → Ctx F m w (w'.alloc (.cells (jR d).toArray 30)) L' m2 (rtB b r p :: jsA 30 p r.L :: (As ++ [blk w'.heap.size (jR d) 30])) := fun C => (C.alloc (jR d) 30).rot
  have hrc : ∀ {w' L'} {a1 : Nat} {As : List Asn}, Ctx F m w w' L' m2 (As ++ [blk a1 (jR d) 30]) → Cells w' ⟨a1, 0, none⟩ (jR d) := fun C => (C.perm List.perm_append_comm).blkCells (o := 0) fun j v e => by simpa using e
  have one : ∀ {w' L'} {q : Option Addr} {c a1 : Nat} {out : List J} {As : List Asn}, out.length ≤ 100001 → Ctx F m w w' L' m2 (rtB b r p :: jsA 30 p r.L :: jsA 30 (q, c) out :: As) → Cells w' ⟨a1, 0, none⟩ (jR d) →
      ∃ q1 c1 w2, (Builtin.append_ #[73, 73] 73 #[.slice q out.length c, .slice (some ⟨a1, 0, none⟩) 1 1]).run Try.prog w' = .ok (.slice q1 (out ++ [d]).length c1) w2 ∧ Kept L' w' w2 ∧ Ctx F m w w2 L' m2 (rtB b r p :: jsA 30 p r.L :: jsA 30 (q1, c1) (out ++ [d]) :: As) := by
    intro w' L' q c a1 out As ho C hc
    obtain ⟨q1, c1, w2, h1, h2, C2⟩ := app_one d ho C.third hc
    exact ⟨q1, c1, w2, h1, h2, C2.perm (List.Perm.trans (.swap ..) (List.Perm.cons _ (.swap ..)))⟩
  have htl : (r.L.take (fK r.L d)).length ≤ 100001 := by rw [List.length_take]; omega
  have htl2 : (r.L.take (fK r.L d) ++ [d]).length ≤ 100001 := by rw [List.length_append, List.length_take]; simp; omega
  refine ⟨fun w21 L22 h21 g21 => ?_, fun w47 L48 h47 g47 => ?_⟩
  · have D0 := hl0 w21.heap.size ((C.hidL h21 g21).newDrop [] 30)
    refine ⟨hfw D0, ?_, ?_⟩
    · obtain ⟨q1, c1, w2, hr1, hk1, D1⟩ := app_take hll (by simp) (fK r.L d) hkl p.2 D0
      refine ⟨q1, _, c1, w2, hr1, hk1, hfw D1, ?_⟩
      have D2 := hrow D1
      refine ⟨hfw D2, ?_⟩
      rw [List.nil_append] at D2 ⊢
      obtain ⟨q2, c2, w3, hr2, hk2, D3⟩ := one htl D2 (hrc (As := [_, _, _]) D2)
      refine ⟨q2, _, c2, w3, hr2, hk2, hfw D3, ?_⟩
      obtain ⟨q3, c3, w4, hr3, hk3, D4⟩ := app_drop hll htl2 (fK r.L d) hkl (p.2 - fK r.L d) D3
      exact ⟨q3, _, c3, w4, hr3, hk3, fin D4⟩
    · have D2 := hrow D0
      refine ⟨hfw D2, ?_⟩
      obtain ⟨q1, c1, w2, hr1, hk1, D1⟩ := app_take hll (by simp) (fK r.L d) hkl p.2 D2
      refine ⟨q1, _, c1, w2, hr1, hk1, hfw D1, ?_⟩
      rw [List.nil_append] at D1 ⊢
      obtain ⟨q2, c2, w3, hr2, hk2, D3⟩ := one htl D1 (hrc (As := [_, _, _]) D1)
      refine ⟨q2, _, c2, w3, hr2, hk2, hfw D3, ?_⟩
      obtain ⟨q3, c3, w4, hr3, hk3, D4⟩ := app_drop hll htl2 (fK r.L d) hkl (p.2 - fK r.L d) D3
      exact ⟨q3, _, c3, w4, hr3, hk3, fin D4⟩
  · have D2 := hrow (C.hidL h47 g47)
    refine ⟨hfw D2, ?_⟩
    have D0 := hl0 (w47.alloc (.cells (jR d).toArray 30)).heap.size (D2.newDrop [] 30)
    refine ⟨hfw D0, ?_⟩
    obtain ⟨q1, c1, w2, hr1, hk1, D1⟩ := app_take hll (by simp) (fK r.L d) hkl p.2 D0
    refine ⟨q1, _, c1, w2, hr1, hk1, hfw D1, ?_⟩
    rw [List.nil_append] at D1 ⊢
    obtain ⟨q2, c2, w3, hr2, hk2, D3⟩ := one htl D1 (hrc (As := [_, _, _]) D1)
    refine ⟨q2, _, c2, w3, hr2, hk2, hfw D3, ?_⟩
    obtain ⟨q3, c3, w4, hr3, hk3, D4⟩ := app_drop hll htl2 (fK r.L d) hkl (p.2 - fK r.L d) D3
    exact ⟨q3, _, c3, w4, hr3, hk3, fin D4⟩
theorem rhas_some {L : List J} {d : J} (h : rhas L d = true) : ∃ hk : fK L d < L.length, L[fK L d] = d := by
  rw [rhas, decide_eq_true_eq] at h
  obtain ⟨hk, he⟩ := List.getElem?_eq_some_iff.1 h
  exact ⟨hk, he⟩
theorem c_rRemove (b : Nat) (r : Rt) (d : J) (hll : r.L.length ≤ 100000) : Ctr Try.prog 36 #[.pointer (some ⟨b, 0, none⟩), jV d] noMem [rtA b r] (fun _ : Unit => .bool (removeR r d).1) (fun _ _ => True) (fun _ => [rtA b (removeR r d).2]) := by
  refine Ctr.mk fun w F m C _ => x_gemotref02_Set_Remove _ _ _ _ _ _ _ _ _ _ _ w _ fun w1 L2 h1 g1 => ?_
  refine (c_rfind b r d hll).call (As := []) (C.hidL h1 g1) trivial fun _ m2 w4 hk hm _ C => ⟨_, _, rfl, hk, ?_⟩
  cases hh : rhas r.L d with
  | false =>
    rw [if_neg (by decide)]
    have e : removeR r d = (false, r) := by simp [removeR, hh]
    rw [e]; exact Ctr.ret () rfl trivial C
  | true =>
  rw [if_pos rfl]
  have e : removeR r d = (true, { r with L := delR r.L d }) := by simp [removeR, hh]
  rw [e]
  obtain ⟨hkl, _⟩ := rhas_some hh
  obtain ⟨p, C⟩ := rtO C
  replace C : Ctx F m w w4 L2 m2 (rtAs b r p) := C
  have hcap := (Ctx.slCap C.swap).1
  have hfw : ∀ {w' L' m'} {As : List Asn}, Ctx F m w w' L' m' (rtB b r p :: As) → FactsW [(⟨b, 0, none⟩, [slV p r.L.length])] w' L' := fun C => C.blkFact1 0 _ rfl (facts_nil _ _)
  have e1 : IntKind.wrap .i64 ((fK r.L d : Int) + 1) = ((fK r.L d + 1 : Nat) : Int) := by rw [w_i64 (by omega) (by omega)]; omega
  rw [e1]
  refine ⟨_, hfw C, p.1, r.L.length, p.2, by simp [Addr.add_mid], by omega, by omega, p.1, r.L.length, p.2, by simp [Addr.add_mid], by omega, by omega, fun w14 L15 h14 g14 => ?_⟩
  rw [Int.toNat_natCast, Int.toNat_natCast]
  have D0 : Ctx F m w (w14.alloc (.cells #[] 30)) L15 m2 [rtB b r p, jsA 30 p r.L, jsA 30 (some ⟨w14.heap.size, 0, none⟩, 0) []] :=
    (Ctx.slNil (q := some ⟨w14.heap.size, 0, none⟩) (ty := 30) (sz := 10) ((C.hidL h14 g14).newDrop [] 30)).perm ((List.Perm.swap ..).trans (List.Perm.cons _ (List.Perm.swap ..)))
  refine ⟨hfw D0, ?_⟩
  obtain ⟨q1, c1, w2, hr1, hk1, D1⟩ := app_take hll (by simp) (fK r.L d) (by omega) p.2 D0
  refine ⟨q1, _, c1, w2, hr1, hk1, hfw D1, ?_⟩
  rw [List.nil_append] at D1 ⊢
  obtain ⟨q2, c2, w3, hr2, hk2, D3⟩ := app_drop hll (by rw [List.length_take]; omega) (fK r.L d + 1) (by omega) (p.2 - (fK r.L d + 1)) D1
  refine ⟨q2, _, c2, w3, hr2, hk2, hfw D3, ?_⟩
  rw [Addr.add_mid]
  refine ⟨rfl, D3.there _ _ (by simp), D3.blkAt.2, ?_⟩
  have C2 := D3.store 0 [slV (q2, c2) (delR r.L d).length] (by simp)
  exact Ctr.ret (m' := m2) (L := L15) () rfl trivial (rtI (q2, c2) ((C2.pk [0, 2] [1] rfl)))
end Go.Proofs
