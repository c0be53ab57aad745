import Derived.Test.YthlhoikeacgfnaaU02p
import Derived.Test.YthlhoikeacgfnaaV02f
set_option linter.unusedVariables false
set_option linter.unusedSimpArgs false
set_option maxRecDepth 10000
namespace Go.Proofs
open Go X RowKit Go.Sort
theorem w1 (k : Nat) (hk : k ≤ 1000000) : IntKind.wrap .i64 ((k : Int) + 1) = ((k + 1 : Nat) : Int) := by rw [w_i64 (by omega) (by omega)]; omega
theorem filter_take {α : Type} (f : α → Bool) (l : List α) (j : Nat) (h : j < l.length) : (l.take (j + 1)).filter f = (l.take j).filter f ++ (if f l[j] then [l[j]] else []) := by
  rw [List.take_succ_eq_append_getElem h, List.filter_append]
  congr 1
  cases hf : f l[j] <;> simp [hf]
def isOf (p : Int × Int) (d : J) : Bool := (d.1.n == p.1) && (d.1.l == p.2)
theorem c_rUnder (b : Nat) (r : Rt) (p : Int × Int) (hll : r.L.length ≤ 100000) : Ctr Try.prog 40 #[.pointer (some ⟨b, 0, none⟩), .agg #[.int .u8 p.1, .int .u16 p.2]] noMem [rtA b r] (fun v : Sl => slV v (r.L.filter (isOf p)).length) (fun _ _ => True) (fun v => [jsA 30 v (r.L.filter (isOf p)), rtA b r]) := by
  refine Ctr.mk fun w F m C _ => x_gemotref02_Set_Under _ _ _ w _ fun w1' L2 h1 g1 => ?_
  obtain ⟨s, C⟩ := rtO C
  replace C := C.hidL h1 g1
  have C0 : Ctx F m w w1' L2 m ([jsA 30 (none, 0) []] ++ rtAs b r s) := Ctx.slNil (q := none) (ty := 30) (sz := 10) C
  refine ⟨fun q n c i w' L' => ∃ (j : Nat) (m' : Mem), i = j ∧ j ≤ r.L.length ∧ n = ((r.L.take j).filter (isOf p)).length ∧ Ctx F m w w' L' m' ([jsA 30 (q, c) ((r.L.take j).filter (isOf p))] ++ rtAs b r s), fun q n c i _ => (r.L.length - i).toNat, ⟨0, m, rfl, by omega, rfl, C0⟩, ?_⟩
  clear C C0 h1 g1
  rintro q n c i w9 L10 _ ⟨j, m', rfl, hj, rfl, D⟩
  have hcell : ∀ {w' L' m'} {A : Asn}, Ctx F m w w' L' m' ([A] ++ rtAs b r s) → w'.cell? ((⟨b, 0, none⟩ : Addr).add 0) = some (slV s r.L.length) ∧ ¬ ((⟨b, 0, none⟩ : Addr).add 0).block ∈ L' := fun D => ⟨by rw [Addr.add_mid]; exact (D.pm [1, 0, 2] rfl).blkCell (j := 0) rfl, by rw [addr_block]; exact (D.pm [1, 0, 2] rfl).blkAt.2⟩
  refine ⟨_, _, _, (hcell D).1, (hcell D).2, ?_⟩
  by_cases hjl : j < r.L.length
  rotate_left
  · rw [if_neg (by simpa using hjl)]
    have : j = r.L.length := by omega
    subst this
    rw [List.take_length] at D ⊢
    exact Ctr.ret (m' := m') (q, c) rfl trivial ((rtI s (D.pm [1, 2, 0] rfl)).swap)
  rw [if_pos (by simpa using hjl)]
  refine ⟨_, _, _, (hcell D).1, (hcell D).2, by omega, by simpa using hjl, ?_⟩
  obtain ⟨pa, hpa, hc, hcb⟩ := js_elem (D.pm [2, 0, 1] rfl) hjl
  have h2 : Cells w9 ((pa.add (j * 10)).add 0) [.int .u8 r.L[j].1.n, .int .u16 r.L[j].1.l] := by
    refine cells_part hc 0 _ fun k v h => ?_
    match k, h with
    | 0, h => exact h
    | 1, h => exact h
    | k + 2, h => simp at h
  rw [hpa]
  refine ⟨_, _, h2, by show ¬ ((pa.add (j * 10)).add 0).block ∈ L10; rw [addr_block]; exact hcb, ?_⟩
  have hif : ((r.L[j].1.n == p.1) && (r.L[j].1.l == p.2)) = isOf p r.L[j] := rfl
  rw [hif]
  have hm : ∀ {k : Nat}, (r.L.length - ((j + 1 : Nat) : Int)).toNat + 1 = ((r.L.length : Int) - (j : Int)).toNat := by intro _; omega
  cases hk : isOf p r.L[j] with
  | true =>
    rw [if_pos rfl]
    refine ⟨_, _, _, (hcell D).1, (hcell D).2, by omega, by simpa using hjl, ?_⟩
    rw [hpa]
    refine ⟨_, _, _, _, _, _, _, _, _, _, hc, hcb, fun w36 L37 h36 g36 => ?_⟩
    have D1 := (D.hidL h36 g36).alloc (jR r.L[j]) 30
    have hlt : ((r.L.take j).filter (isOf p)).length ≤ 100001 := Nat.le_trans (List.length_filter_le _ _) (by rw [List.length_take]; omega)
    obtain ⟨q2, c2, w41, hap, hk41, D2⟩ := app_one r.L[j] hlt (D1.pm [1, 0, 2, 3] rfl) (D1.blkCells fun k v h => by simpa using h)
    refine ⟨q2, _, c2, w41, hap, hk41, rfl, ?_, ?_⟩
    · rw [w1 j (by omega)]
      exact ⟨j + 1, m', rfl, hjl, by rw [filter_take _ _ _ hjl, hk]; rfl, by rw [filter_take _ _ _ hjl, hk]; exact D2.pk [0, 2, 3] [1] rfl⟩
    · rw [w1 j (by omega)]; exact Nat.le_of_eq (hm (k := 0))
  | false =>
    rw [if_neg (by decide)]
    intro w20 L21 h20 g20
    refine ⟨rfl, ?_, ?_⟩
    · rw [w1 j (by omega)]
      exact ⟨j + 1, m', rfl, hjl, by rw [filter_take _ _ _ hjl, hk]; simp, by rw [filter_take _ _ _ hjl, hk]; simpa using D.hidL h20 g20⟩
    · rw [w1 j (by omega)]; exact Nat.le_of_eq (hm (k := 0))
theorem c_RefIDs (p : Sl) (l : List J) (hl : l.length ≤ 100000) : Ctr Try.prog 39 #[slV p l.length] noMem [jsA 35 p l] (fun v : Sl => slV v l.length) (fun _ _ => True) (fun v => [jsA 30 v l, jsA 35 p l]) := by
  refine Ctr.mk fun w F m C _ => x_gemotlaw02_RefIDs _ _ _ w _ ?_
  have C0 : Ctx F m w w [] m ([jsA 30 (none, 0) []] ++ [jsA 35 p l]) := Ctx.slNil (q := none) (ty := 30) (sz := 10) C
  refine ⟨fun q n c i w' L' => ∃ (j : Nat) (m' : Mem), i = j ∧ j ≤ l.length ∧ n = (l.take j).length ∧ Ctx F m w w' [] m' [jsA 30 (q, c) (l.take j), jsA 35 p l], fun q n c i _ => (l.length - i).toNat, ⟨0, m, rfl, by omega, rfl, C0⟩, ?_⟩
  clear C C0
  rintro q n c i w7 L8 _ ⟨j, m', rfl, hj, rfl, D⟩
  by_cases hjl : j < l.length
  rotate_left
  · rw [if_neg (by simpa using hjl)]
    have : j = l.length := by omega
    subst this
    rw [List.take_length] at D ⊢
    exact Ctr.ret (m' := m') (L := []) (q, c) rfl trivial D
  rw [if_pos (by simpa using hjl)]
  obtain ⟨pa, hpa, hc, hcb⟩ := js_elem D.swap hjl
  refine ⟨by omega, by simpa using hjl, ?_⟩
  rw [hpa]
  refine ⟨_, _, _, _, _, _, _, _, _, _, hc, ?_⟩
  refine D.gives (c_RefID l[j].1) fun w21 k21 D => ⟨_, _, _, _, _, _, _, _, _, _, rfl, k21.size, ?_⟩
  have D1 := D.alloc (jR l[j]) 30
  have hlt : (l.take j).length ≤ 100001 := by rw [List.length_take]; omega
  obtain ⟨q2, c2, w41, hap, hk41, D2⟩ := app_one l[j] hlt (D1.pm [1, 0, 2] rfl) (D1.blkCells fun k v h => by simpa using h)
  refine ⟨q2, _, c2, w41, hap, hk41.size, ?_, ?_⟩
  · rw [w1 j (by omega)]
    exact ⟨j + 1, m', rfl, hjl, by rw [List.take_succ_eq_append_getElem hjl], by rw [List.take_succ_eq_append_getElem hjl]; exact (D2.pk [0, 2] [1] rfl).noL⟩
  · rw [w1 j (by omega)]
    show ((l.length : Int) - ((j + 1 : Nat) : Int)).toNat + 1 ≤ ((l.length : Int) - (j : Int)).toNat
    omega
theorem c_Same (p p' : Sl) (l l' : List J) (hl : l.length ≤ 100000) : Ctr Try.prog 38 #[slV p l.length, slV p' l'.length] noMem [jsA 30 p l, jsA 30 p' l'] (fun _ : Unit => .bool (decide (l = l'))) (fun _ _ => True) (fun _ => [jsA 30 p l, jsA 30 p' l']) := by
  refine Ctr.mk fun w F m C _ => x_gemotlaw02_Same _ _ _ _ _ _ w _ ?_
  by_cases hll : l.length = l'.length
  rotate_left
  · rw [if_pos (by simp; omega)]
    exact Ctr.ret (m' := m) (L := []) () (by rw [decide_eq_false (fun e => hll (by rw [e]))]) trivial C
  rw [if_neg (by simp; omega)]
  refine ⟨fun i w' L' => ∃ (j : Nat), i = j ∧ j ≤ l.length ∧ l.take j = l'.take j ∧ Ctx F m w w' [] m [jsA 30 p l, jsA 30 p' l'], fun i _ => (l.length - i).toNat, ⟨0, rfl, by omega, by simp, C⟩, ?_⟩
  clear C
  rintro i w4 L5 _ ⟨j, rfl, hj, he, D⟩
  by_cases hjl : j < l.length
  rotate_left
  · rw [if_neg (by simpa using hjl)]
    have : j = l.length := by omega
    subst this
    rw [List.take_length, hll, List.take_length] at he
    exact Ctr.ret (m' := m) (L := []) () (by rw [decide_eq_true he]) trivial D
  rw [if_pos (by simpa using hjl)]
  have hjl' : j < l'.length := by omega
  obtain ⟨pa, hpa, hc, hcb⟩ := js_elem D hjl
  obtain ⟨pb, hpb, hc', hcb'⟩ := js_elem D.swap hjl'
  refine ⟨by omega, by simpa using hjl, ?_⟩
  rw [hpa]
  refine ⟨_, _, _, _, _, _, _, _, _, _, hc, by omega, by simpa using hjl', ?_⟩
  rw [hpb]
  refine ⟨_, _, _, _, _, _, _, _, _, _, hc', ?_⟩
  rw [i_eq]
  by_cases hx : l[j] = l'[j]
  · rw [if_neg (by simp [hx])]
    intro w28 h28
    refine ⟨⟨j + 1, by rw [w1 j (by omega)], hjl, ?_, (D.hid0 h28)⟩, ?_⟩
    · rw [List.take_succ_eq_append_getElem hjl, List.take_succ_eq_append_getElem hjl', he, hx]
    · rw [w1 j (by omega)]
      show ((l.length : Int) - ((j + 1 : Nat) : Int)).toNat + 1 ≤ ((l.length : Int) - (j : Int)).toNat
      omega
  · have hx' : ¬ l[j].1 = l'[j].1 := fun e => hx (Subtype.ext e)
    rw [if_pos (by simp [hx'])]
    intro w29 h29
    exact Ctr.ret (m' := m) (L := []) () (by rw [decide_eq_false (fun e => hx (by simp [e]))]) trivial (D.hid0 h29)
end Go.Proofs
