import Derived.Test.YtfbjellaijdgbaaDoorXArgs
set_option linter.unusedVariables false
set_option linter.unusedSimpArgs false
/- The engine, part 18: an element taken out of an owned slice (slices.Delete). -/
namespace Go.X
open Go RowKit
theorem appB_spec {P : Program} {t t2 e : TypeId} {sz bytes : Nat} (hB : appB P t t2 e sz bytes = true) :
    P.underlying t = some (.slice e) ∧ notZ P t2 = true ∧ ∃ i z, P.info? e = some i ∧ i.size = sz ∧ i.bytes ≤ bytes ∧ i.zero = some z ∧ z.cells.size = sz := by
  simp only [appB, Bool.and_eq_true] at hB
  obtain ⟨⟨h1, h2⟩, h3⟩ := hB
  split at h1
  · rename_i e' he
    have : e' = e := by simpa using h1
    subst this
    refine ⟨he, h2, ?_⟩
    split at h3
    · rename_i i hi
      simp only [Bool.and_eq_true, beq_iff_eq, decide_eq_true_eq] at h3
      obtain ⟨⟨g1, g2⟩, g3⟩ := h3
      split at g3
      · rename_i z hz
        exact ⟨i, z, hi, g1, g2, hz, by simpa using g3⟩
      · cases g3
    · cases h3
  · cases h1
theorem zeroCells_one (z : Array Value) : (Builtin.zeroCells z 1).toList = z.toList := by
  apply List.ext_getElem?
  intro j
  simp only [Builtin.zeroCells, Nat.one_mul, Array.toList_map, Array.toList_range, List.getElem?_map]
  by_cases hj : j < z.size
  · rw [List.getElem?_range hj]
    simp [Nat.mod_eq_of_lt hj, hj]
  · have h1 : (List.range z.size)[j]? = none := List.getElem?_eq_none_iff.2 (by simp; omega)
    have h2 : z.toList[j]? = none := List.getElem?_eq_none_iff.2 (by simp; omega)
    rw [h1, h2]; rfl
section
variable {P : Program} {F0 : List Nat} {m0 : Mem} {w0 w : World} {L : List Nat} {m : Mem} {As : List Asn}
theorem Ctx.del {q : Option Addr} {n c : Nat} {cs : List Value} {t e : TypeId} {sz bytes : Nat} (hB : appB P t t e sz bytes = true) (hz1 : ∀ i z, P.info? e = some i → i.zero = some z → ∀ u ∈ z.cells, oneC u = true)
    (C : Ctx F0 m0 w0 w L m (slA (.slice q n c) n cs e sz :: As)) (hone : ∀ u ∈ cs, oneC u = true) (i : Nat) (hi : i < n) (hbig : n * (bytes + 1) ≤ 140737488355328) :
    ∃ w6 w7, (Builtin.append_ #[t, t] t #[.slice (cutA q c 0 sz) i c, .slice (cutA q c (i + 1) sz) (n - (i + 1)) (c - (i + 1))]).run P w = .ok (.slice q (n - 1) c) w6 ∧ w.heap.size ≤ w6.heap.size ∧
      (Builtin.clear_ #[t] 0 #[.slice (cutA q c (n - 1) sz) (n - (n - 1)) (c - (n - 1))]).run P w6 = .ok (.tuple #[]) w7 ∧ w6.heap.size ≤ w7.heap.size ∧
      Ctx F0 m0 w0 w7 L m (slA (.slice q (n - 1) c) (n - 1) (cs.take (i * sz) ++ cs.drop ((i + 1) * sz)) e sz :: As) := by
  obtain ⟨ht, h2, inf, z, hinf, hsz, hby, hz, hzs⟩ := appB_spec hB
  subst hsz
  obtain ⟨q', c', e', hl, hn, hcm, h⟩ := C.slO
  injection e' with e1 _ e2; subst e1; subst e2
  rcases h with ⟨rfl, _⟩ | ⟨b, pre, rest, rfl, hr, C'⟩
  · omega
  generalize hszz : inf.size = sz at *
  have hmul : ∀ a b : Nat, a ≤ b → a * sz ≤ b * sz := fun a b h => Nat.mul_le_mul_right _ h
  have hi1 : (i + 1) * sz = i * sz + sz := by rw [Nat.add_mul]; omega
  have hn1 : n * sz = (n - 1) * sz + sz := by
    have : n = (n - 1) + 1 := by omega
    conv => lhs; rw [this]
    rw [Nat.add_mul]; omega
  have hni : (n - (i + 1)) * sz = n * sz - (i + 1) * sz := Nat.sub_mul ..
  have hle1 := hmul (i + 1) n (by omega)
  have hle2 := hmul i (n - 1) (by omega)
  have hbl := C'.blkAt.1
  have hcell := C.slCells
  have hcs := (hcell.1 _ rfl).1
  have htk : (cs.take (i * sz)).length = i * sz := by rw [List.length_take]; omega
  have hdr : (cs.drop ((i + 1) * sz)).length = (n - (i + 1)) * sz := by rw [List.length_drop, hl, hni]
  have hsrc : Src w sz (.slice (cutA (some ⟨b, pre.length, none⟩) c (i + 1) sz) (n - (i + 1)) (c - (i + 1))) (n - (i + 1)) (cs.drop ((i + 1) * sz)) := by
    by_cases h0 : n - (i + 1) = 0
    · have : cs.drop ((i + 1) * sz) = [] := List.eq_nil_of_length_eq_zero (by rw [hdr, h0]; simp)
      rw [this, h0]; exact .none ..
    · have hc1 : cutA (some ⟨b, pre.length, none⟩) c (i + 1) sz = some ⟨b, pre.length + (i + 1) * sz, none⟩ := by
        unfold cutA; rw [if_neg (by omega), Option.map_some, Addr.add_mid]
      rw [hc1]
      refine .some _ _ _ _ hdr fun j v hj => ?_
      rw [List.getElem?_drop] at hj
      have := hcs _ _ hj
      rw [Addr.add_mid] at this ⊢
      rw [Nat.add_assoc]; exact this
  have hR := run_append_all (P := P) t t t e inf z ht h2 hinf hz (some ⟨b, pre.length, none⟩) i c (cs.take (i * sz)) (by rw [hszz]; exact htk) (fun a ha => by
      injection ha with ha; subst ha
      exact fun j v hj => hcs j v (by rw [List.getElem?_take] at hj; split at hj; exact hj; cases hj)) (fun h => by cases h)
    _ (n - (i + 1)) (cs.drop ((i + 1) * sz)) (by rw [hszz]; exact hsrc) (by omega) (by unfold maxLen at hcm ⊢; omega) (by
      have : (i + (n - (i + 1))) * inf.bytes ≤ n * (bytes + 1) := Nat.mul_le_mul (by omega) (by omega)
      omega) (fun u hu => hone u (List.mem_of_mem_drop hu)) (fun _ _ a ha => by
      injection ha with ha; subst ha
      refine ⟨rfl, ?_⟩
      rw [hszz]
      exact C'.there _ _ (by simp only [List.length_append]; omega))
  rw [if_pos (by omega)] at hR
  rw [cutA_zero]
  have hin : i + (n - (i + 1)) = n - 1 := by omega
  rw [hin] at hR
  have hst := C'.store (pre.length + i * sz) (cs.drop ((i + 1) * sz)) (by simp only [List.length_append]; omega)
  have hsp : splice (pre ++ cs ++ rest) (pre.length + i * sz) (cs.drop ((i + 1) * sz)) = pre ++ (cs.take (i * sz) ++ cs.drop ((i + 1) * sz)) ++ (cs.drop ((n - 1) * sz) ++ rest) := by
    simp only [splice]
    have e1 : (pre ++ cs ++ rest).take (pre.length + i * sz) = pre ++ cs.take (i * sz) := by
      rw [List.append_assoc, List.take_append, List.take_of_length_le (by omega), show pre.length + i * sz - pre.length = i * sz by omega, List.take_append_of_le_length (by omega)]
    have e2 : (pre ++ cs ++ rest).drop (pre.length + i * sz + (cs.drop ((i + 1) * sz)).length) = cs.drop ((n - 1) * sz) ++ rest := by
      have : pre.length + i * sz + (cs.drop ((i + 1) * sz)).length = pre.length + (n - 1) * sz := by rw [hdr]; omega
      rw [this, List.append_assoc, List.drop_append, List.drop_eq_nil_of_le (by omega), show pre.length + (n - 1) * sz - pre.length = (n - 1) * sz by omega, List.drop_append_of_le_length (by omega)]
      simp
    rw [e1, e2]; simp
  rw [hsp] at hst
  have hmid : (cs.take (i * sz) ++ cs.drop ((i + 1) * sz)).length = (n - 1) * sz := by rw [List.length_append, htk, hdr]; omega
  have hc2 : cutA (some ⟨b, pre.length, none⟩) c (n - 1) sz = some ⟨b, pre.length + (n - 1) * sz, none⟩ := by
    unfold cutA; rw [if_neg (by omega), Option.map_some, Addr.add_mid]
  have hone' : n - (n - 1) = 1 := by omega
  have hlast : (cs.drop ((n - 1) * sz)).length = sz := by rw [List.length_drop]; omega
  have hq : qset w (some ⟨b, pre.length, none⟩) (i * inf.size) (cs.drop ((i + 1) * sz)) = w.setCells b (pre.length + i * sz) (cs.drop ((i + 1) * sz)) := by rw [hszz]; rfl
  rw [hq] at hR
  refine ⟨_, (w.setCells b (pre.length + i * sz) (cs.drop ((i + 1) * sz))).setCells b (pre.length + (n - 1) * sz) z.cells.toList, hR, ?_, ?_, ?_, ?_⟩
  · exact (setCells_hid _ _ _ _).size
  · rw [hc2, hone']
    have hth := hst.there (pre.length + (n - 1) * sz) sz (by simp only [List.length_append, hmid, hlast]; omega)
    have hs := run_storeCells_cells (P := P) b (pre.length + (n - 1) * sz) z.cells.toList 0 (w.setCells b (pre.length + i * sz) (cs.drop ((i + 1) * sz)))
      (fun j hj => by simpa using (hth j (by simp at hj; omega)).1) (fun j hj => by simpa using (hth j (by simp at hj; omega)).2) (fun v hv => by rw [← oneC_eq]; exact hz1 inf z hinf hz v (by simpa using hv))
    rw [Nat.add_zero] at hs
    simp [Builtin.clear_, run_underlying ht, zeroValue, typeInfo, hinf, hz, zeroCells_one, hs]
  · exact (setCells_hid _ _ _ _).size
  · have hst2 := hst.store (pre.length + (n - 1) * sz) z.cells.toList (by simp only [List.length_append, hmid, hlast]; simp; omega)
    have hsp2 : splice (pre ++ (cs.take (i * sz) ++ cs.drop ((i + 1) * sz)) ++ (cs.drop ((n - 1) * sz) ++ rest)) (pre.length + (n - 1) * sz) z.cells.toList = pre ++ (cs.take (i * sz) ++ cs.drop ((i + 1) * sz)) ++ (z.cells.toList ++ rest) := by
      simp only [splice]
      rw [← hmid, ← List.length_append]
      rw [List.take_left]
      rw [← List.drop_drop, List.drop_left]
      have hz0 : z.cells.toList.length = sz := by simp [hzs]
      rw [hmid]
      generalize cs.drop ((n - 1) * sz) = D at hlast
      rw [List.drop_append_of_le_length (by omega), List.drop_eq_nil_of_le (as := D) (by omega)]
      simp
    rw [hsp2] at hst2
    refine Ctx.slI rfl hmid (by omega) hcm ?_ hst2
    simp only [List.length_append, Array.length_toList, hzs]
    have : (c - (n - 1)) * sz = (c - n) * sz + sz := by
      have : c - (n - 1) = (c - n) + 1 := by omega
      rw [this, Nat.add_mul]; omega
    omega
end
end Go.X
