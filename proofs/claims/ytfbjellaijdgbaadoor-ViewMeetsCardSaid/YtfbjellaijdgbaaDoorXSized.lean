import Derived.Test.YtfbjellaijdgbaaDoorXElems
import Derived.SizedLaws
set_option linter.unusedVariables false
set_option linter.unusedSimpArgs false
/- The engine, part 27: arguments within a machine's reach: how long their slices may be. -/
namespace Go.X
open Go RowKit Go.ChangeShapes Go.WideShapes Go.ChangeAt
/-- nothing in it is longer than what a machine reaches -/
def Small {H : Type} (P : Program) (t : TypeId) (d : DataW H) : Prop := ∀ n ∈ d.weights P t, n ≤ reachBytes
section
variable {H : Type} {enc : TypeId × Value → H} {P : Program} {w : World} {sp : Nat → Bool} {held : Bool} {fuel : Nat} {t e : TypeId} {cs : List Value} {x : DataW H × List MemPlace}
theorem small_each {ts : List TypeId} {ds : List (DataW H)} (h : (DataW.weightsEach P ts ds).all (· ≤ reachBytes) = true) {j : Nat} {t : TypeId} {d : DataW H} (ht : ts[j]? = some t) (hd : ds[j]? = some d) : Small P t d := fun n hn => by
  simpa using List.all_eq_true.1 h _ (DataW.weights_mem_each ht hd n hn)
theorem weights_mem_all {d : DataW H} : ∀ {l : List (DataW H)}, d ∈ l → ∀ n ∈ d.weights P e, n ∈ DataW.weightsAll P e l
  | a :: l, h, n, hn => by
    simp only [DataW.weightsAll, List.mem_append]
    rcases List.mem_cons.1 h with rfl | h
    · exact .inl hn
    · exact .inr (weights_mem_all h n hn)
theorem trod_fieldS {fs : Array Field} (ht : P.underlying t = some (.struct fs)) (h : DataW.trod enc P w 0 sp held fuel t cs = some x) (hs : Small P t x.1) (i : Nat) (ty o n : Nat) (hf : (fs[i]?).map (fun f => (f.type, f.offset)) = some (ty, o)) (hn : P.cellsOf ty = n) :
    ∃ g y, DataW.trod enc P w 0 sp held g ty ((cs.drop o).take n) = some y ∧ Small P ty y.1 := by
  obtain ⟨xs, k, _, rfl, _, hl, hx⟩ := DataW.trod_struct ht h
  cases hq : fs[i]? with
  | none => rw [hq] at hf; cases hf
  | some f =>
    rw [hq] at hf
    simp only [Option.map_some, Option.some.injEq, Prod.mk.injEq] at hf
    obtain ⟨rfl, rfl⟩ := hf
    subst hn
    have hlt : i < xs.length := by rw [hl]; exact (Array.getElem?_eq_some_iff.1 hq).1
    refine ⟨k, _, (hx i f hq).trans (List.getElem?_eq_getElem hlt), fun n hn => hs n ?_⟩
    simp only [DataW.weights, ht]
    exact DataW.weights_mem_each (j := i) (t := f.type) (by rw [List.getElem?_map, Array.getElem?_toList, hq]; rfl) (by rw [List.getElem?_map, List.getElem?_eq_getElem hlt]; rfl) n hn
theorem trod_elemsS (ht : P.underlying t = some (.slice e)) (h : DataW.trod enc P w 0 sp held fuel t cs = some x) (hs : Small P t x.1) :
    ∃ q n c f, cs = [.slice q n c] ∧ n ≤ maxLen ∧ n * P.bytesOf e ≤ reachBytes ∧ (q = none → n = 0) ∧ ∀ a, q = some a → ∀ i, i < n → ∃ ec y, ec.length = P.cellsOf e ∧ MCells (memOf w) (a.add (i * P.cellsOf e)) ec ∧ DataW.trod enc P w 0 sp held f e ec = some y ∧ Small P e y.1 := by
  rcases DataW.trod_slice ht h with ⟨rfl, _⟩ | ⟨a, len, cap, elems, rest, n, _, rfl, rfl, hb, hl, hm, hlen, hel, _⟩
  · exact ⟨none, 0, 0, 0, rfl, by simp [maxLen], by simp, fun _ => rfl, (fun a h => by cases h)⟩
  · refine ⟨some a, len, cap, n, rfl, by omega, ?_, (fun h => by cases h), fun a' ha i hi => ?_⟩
    · have := hs ((elems.length + rest.length) * P.bytesOf e) (by simp [DataW.weights, ht])
      rw [Nat.add_mul, hlen] at this
      exact Nat.le_trans (Nat.le_add_right _ _) this
    injection ha with ha; subst ha
    have := hel i hi
    rw [List.getElem?_eq_getElem (by omega)] at this
    simp only [Option.bind_eq_some_iff] at this
    obtain ⟨ec, h1, h2⟩ := this
    obtain ⟨_, g2, g3⟩ := World.cells?_some h1
    refine ⟨ec, _, g2, fun j v hj => ?_, h2, fun m hm => hs m ?_⟩
    · have hjl := (List.getElem?_eq_some_iff.1 hj).1
      show w.cell? _ = _
      rw [g3 j (by omega)]; exact hj
    · simp only [DataW.weights, ht, List.mem_cons, List.mem_append]
      exact .inr (.inl (weights_mem_all (List.mem_map.2 ⟨_, List.getElem_mem (by omega), rfl⟩) m hm))
theorem trod_listS (ht : P.underlying t = some (.slice e)) {k : Nat} (hc : P.cellsOf e = k) (h0 : 0 < k) (h : DataW.trod enc P w 0 sp held fuel t cs = some x) (hs : Small P t x.1) {B : Nat} (hB : P.bytesOf e = B)
    {α : Type} {f : α → List Value} (hk : ∀ a, (f a).length = k) {φ : α → Prop} (hop : ∀ g ec y, DataW.trod enc P w 0 sp held g e ec = some y → Small P e y.1 → ∃ a : α, ec = f a ∧ φ a) :
    ∃ q c, ∃ l : List α, cs = [.slice q l.length c] ∧ (l.length ≤ maxLen ∧ l.length * B ≤ reachBytes) ∧ MSrc (memOf w) k (.slice q l.length c) l.length (l.flatMap f) ∧ ∀ a ∈ l, φ a := by
  obtain ⟨q, n, c, g, rfl, hm, hr, hn, hel⟩ := trod_elemsS ht h hs
  subst hB
  cases q with
  | none =>
    obtain rfl := hn rfl
    exact ⟨none, c, [], rfl, ⟨by simp [maxLen], by simp⟩, .nil .., by simp⟩
  | some pa =>
    obtain ⟨l, hl, hp⟩ := exists_list (p := fun i (a : α) => MCells (memOf w) (pa.add (i * k)) (f a) ∧ φ a) (n := n) fun i hi => by
      obtain ⟨ec, y, h1, h2, h3, h4⟩ := hel pa rfl i hi
      obtain ⟨a, rfl, ha⟩ := hop _ _ _ h3 h4
      rw [hc] at h2
      exact ⟨a, h2, ha⟩
    subst hl
    refine ⟨some pa, c, l, rfl, ⟨hm, hr⟩, MSrc.mk (flat_len hk l) (fun a ha => ?_) (fun h => by cases h), fun a ha => ?_⟩
    · injection ha with ha; subst ha
      exact mcells_flat h0 hk fun i hi => (hp i hi).1
    · obtain ⟨i, hi, rfl⟩ := List.getElem_of_mem ha
      exact (hp i hi).2
theorem trod_bytesS (ht : P.underlying t = some (.slice e)) (he : P.underlying e = some (.int .u8)) (hc : P.cellsOf e = 1) (h : DataW.trod enc P w 0 sp held fuel t cs = some x) (hs : Small P t x.1) (hB : P.bytesOf e = 1) :
    ∃ q c bs, cs = [.slice q (bs : List UInt8).length c] ∧ (bs.length ≤ maxLen ∧ bs.length ≤ reachBytes) ∧ MSrc (memOf w) 1 (.slice q bs.length c) bs.length (byV bs) := by
  obtain ⟨q, c, bs, rfl, h1, h2⟩ := trod_bytes ht he hc h
  obtain ⟨q', n', c', f, e', _, hr, _⟩ := trod_elemsS ht h hs
  injection e' with e' _
  injection e' with _ e2 _
  subst e2
  rw [hB, Nat.mul_one] at hr
  exact ⟨q, c, bs, rfl, ⟨h1, hr⟩, h2⟩
theorem reach_lt : reachBytes < 140737488355328 := by decide
end
end Go.X
