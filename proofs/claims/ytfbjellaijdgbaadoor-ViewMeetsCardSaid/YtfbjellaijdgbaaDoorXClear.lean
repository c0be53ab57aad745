import Derived.Test.YtfbjellaijdgbaaDoorXSub
set_option linter.unusedVariables false
set_option linter.unusedSimpArgs false
/- The engine, part 28: clear, of a map and of a slice's tail. -/
namespace Go.X
open Go RowKit
section
variable {α β : Type} [DecidableEq α] {P : Program} {F0 : List Nat} {m0 : Mem} {w0 w : World} {L : List Nat} {m : Mem} {As : List Asn}
theorem Ctx.mclear {enc : α → Value} {encV : β → Value} {l : List (α × β)} {b : Nat} {t kt et ty : TypeId} (ht : P.underlying t = some (.map kt et)) (C : Ctx F0 m0 w0 w L m (mapA b enc encV l :: As)) :
    ∃ w', (Builtin.clear_ #[t] ty #[.map (some b)]).run P w = .ok (.tuple #[]) w' ∧ Kept L w w' ∧ Ctx F0 m0 w0 w' L m (mapA b enc encV ([] : List (α × β)) :: As) := by
  obtain ⟨es, clock, hb, hm⟩ := C.mapO
  have hT := C.mapTurn (l' := []) (es := #[]) (clock := clock) ⟨rfl, rfl, by simp, by simp, by simp⟩
  refine ⟨_, ?_, hT.1, hT.2⟩
  simp [Builtin.clear_, Sem.run_bind, run_underlying ht, Result.andThen_ok, getObj_map hb, setObj_map _ hb]
theorem zeroCells_mem {z : Array Value} {n : Nat} {u : Value} (h : u ∈ (Builtin.zeroCells z n).toList) (hz : z.size ≠ 0) : u ∈ z.toList := by
  simp only [Builtin.zeroCells, Array.toList_map, Array.toList_range, List.mem_map] at h
  obtain ⟨i, _, rfl⟩ := h
  have := Nat.mod_lt i (Nat.pos_of_ne_zero hz)
  rw [getElem!_pos z _ this]
  simp
theorem Ctx.slClear {q : Option Addr} {n c : Nat} {cs : List Value} {t ty e : TypeId} {sz bytes : Nat} (hB : appB P t t e sz bytes = true) (h0 : sz ≠ 0) (hz1 : ∀ i z, P.info? e = some i → i.zero = some z → ∀ u ∈ z.cells, oneC u = true)
    (C : Ctx F0 m0 w0 w L m (slA (.slice q n c) n cs e sz :: As)) (k : Nat) (hk : k ≤ n) :
    ∃ w', (Builtin.clear_ #[t] ty #[.slice (cutA q c k sz) (n - k) (c - k)]).run P w = .ok (.tuple #[]) w' ∧ Kept L w w' ∧ Ctx F0 m0 w0 w' L m (slA (.slice q k c) k (cs.take (k * sz)) e sz :: As) := by
  obtain ⟨ht, h2, inf, z, hinf, hsz, hby, hz, hzs⟩ := appB_spec hB
  obtain ⟨q', c', e', hl, hn, hcm, h⟩ := C.slO
  injection e' with e1 _ e2; subst e1; subst e2
  have hkz : k * sz ≤ n * sz := Nat.mul_le_mul_right _ hk
  by_cases hkn : k = n
  · subst hkn
    refine ⟨w, ?_, kept_refl _ _, ?_⟩
    · rw [Nat.sub_self]
      cases hq : cutA q c k sz <;> simp [Builtin.clear_, run_underlying ht]
    · rw [List.take_of_length_le (by omega)]; exact C
  rcases h with ⟨rfl, _⟩ | ⟨b, pre, rest, rfl, hr, C'⟩
  · omega
  have hlen : (Builtin.zeroCells z.cells (n - k)).toList.length = (n - k) * sz := by simp [size_zeroCells, hzs]
  have hnk : (n - k) * sz = n * sz - k * sz := Nat.sub_mul ..
  have hc2 : cutA (some ⟨b, pre.length, none⟩) c k sz = some ⟨b, pre.length + k * sz, none⟩ := by
    unfold cutA; rw [if_neg (by omega), Option.map_some, Addr.add_mid]
  have hst := C'.store (pre.length + k * sz) (Builtin.zeroCells z.cells (n - k)).toList (by simp only [List.length_append, hlen]; omega)
  have hh := setCells_hid w b (pre.length + k * sz) (Builtin.zeroCells z.cells (n - k)).toList
  refine ⟨_, ?_, ⟨hh.size, fun x hx => hh.block x (C.loc x hx).2 (fun hc => by simp only [List.mem_singleton] at hc; subst hc; exact C'.blkAt.2 hx)⟩, ?_⟩
  · have hth := C'.there (pre.length + k * sz) ((n - k) * sz) (by simp only [List.length_append]; omega)
    have hs := run_storeCells_cells (P := P) b (pre.length + k * sz) (Builtin.zeroCells z.cells (n - k)).toList 0 w
      (fun j hj => by simpa using (hth j (by rw [hlen] at hj; exact hj)).1) (fun j hj => by simpa using (hth j (by rw [hlen] at hj; exact hj)).2)
      (fun v hv => by rw [← oneC_eq]; exact hz1 inf z hinf hz v (by simpa using zeroCells_mem hv (by omega)))
    rw [Nat.add_zero] at hs
    obtain ⟨d, hd⟩ : ∃ d, n - k = d + 1 := ⟨n - k - 1, by omega⟩
    rw [hc2]
    rw [hd] at hs ⊢
    simp [Builtin.clear_, run_underlying ht, zeroValue, typeInfo, hinf, hz, hs]
  · have hsp : splice (pre ++ cs ++ rest) (pre.length + k * sz) (Builtin.zeroCells z.cells (n - k)).toList = pre ++ cs.take (k * sz) ++ ((Builtin.zeroCells z.cells (n - k)).toList ++ rest) := by
      simp only [splice, hlen]
      have e1 : (pre ++ cs ++ rest).take (pre.length + k * sz) = pre ++ cs.take (k * sz) := by
        rw [List.append_assoc, List.take_append, List.take_of_length_le (by omega), show pre.length + k * sz - pre.length = k * sz by omega, List.take_append_of_le_length (by omega)]
      have e2 : (pre ++ cs ++ rest).drop (pre.length + k * sz + (n - k) * sz) = rest := by
        rw [show pre.length + k * sz + (n - k) * sz = (pre ++ cs).length by rw [List.length_append]; omega]
        exact List.drop_left
      rw [e1, e2]; simp
    rw [hsp] at hst
    refine Ctx.slI rfl (by rw [List.length_take]; omega) (by omega) hcm ?_ hst
    simp only [List.length_append, hlen]
    have : (c - k) * sz = (c - n) * sz + (n - k) * sz := by rw [← Nat.add_mul]; congr 1; omega
    omega
end
end Go.X
