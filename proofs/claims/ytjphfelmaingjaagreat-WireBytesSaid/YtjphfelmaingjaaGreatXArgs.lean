import Derived.Test.YtjphfelmaingjaaGreatXSlice
import Derived.Test.YtjphfelmaingjaaGreatXFit
import Derived.ChangeArms
import Derived.DataElems
set_option linter.unusedVariables false
set_option linter.unusedSimpArgs false
/- The engine, part 17: what lies in the arguments; memory that is read as lists; a piece lent to a call. -/
namespace Go.X
open Go RowKit

inductive MSrc (m : Mem) (sz : Nat) : Value → Nat → List Value → Prop where
  | nil (q : Option Addr) (c : Nat) : MSrc m sz (.slice q 0 c) 0 []
  | row (a : Addr) (n c : Nat) (news : List Value) : n ≠ 0 → news.length = n * sz → MCells m a news → MSrc m sz (.slice (some a) n c) n news
theorem MSrc.mono {m m' : Mem} {sz : Nat} {v : Value} {n : Nat} {cs : List Value} (h : MSrc m sz v n cs) (hm : m.le m') : MSrc m' sz v n cs := by
  cases h with
  | nil => exact .nil ..
  | row a n c news h0 hl hc => exact .row _ _ _ _ h0 hl (hc.mono hm)
theorem MSrc.mk {m : Mem} {sz : Nat} {q : Option Addr} {n c : Nat} {cs : List Value} (hl : cs.length = n * sz) (h : ∀ a, q = some a → MCells m a cs) (h0 : q = none → n = 0) : MSrc m sz (.slice q n c) n cs := by
  by_cases hn : n = 0
  · subst hn
    have : cs = [] := List.eq_nil_of_length_eq_zero (by simpa using hl)
    subst this; exact .nil ..
  · cases q with
    | none => exact absurd (h0 rfl) hn
    | some a => exact .row _ _ _ _ hn hl (h a rfl)
theorem MSrc.none_len {m : Mem} {sz n c : Nat} {cs : List Value} (h : MSrc m sz (.slice none n c) n cs) : n = 0 ∧ cs = [] := by
  generalize hv : Value.slice none n c = v at h
  cases h with
  | nil => injection hv with _ h _; exact ⟨h, rfl⟩
  | row a n c news h0 hl hc => cases hv
theorem MSrc.cells {m : Mem} {sz : Nat} {q : Option Addr} {n c : Nat} {cs : List Value} (h : MSrc m sz (.slice q n c) n cs) {k : Nat} (hk : k < n) : ∃ a, q = some a ∧ MCells m (a.add (k * sz)) ((cs.drop (k * sz)).take sz) := by
  cases h with
  | nil => omega
  | row a n c news h0 hl hc =>
    refine ⟨a, rfl, fun j v hj => ?_⟩
    rw [Addr.add_add]
    rw [List.getElem?_take] at hj
    split at hj
    · rw [List.getElem?_drop] at hj; exact hc _ _ hj
    · cases hj
section
variable {F0 : List Nat} {m0 : Mem} {w0 w : World} {L : List Nat} {m : Mem} {As : List Asn}
theorem Ctx.src (C : Ctx F0 m0 w0 w L m As) {sz : Nat} {v : Value} {n : Nat} {cs : List Value} (h : MSrc m sz v n cs) : Src w sz v n cs := by
  cases h with
  | nil => exact .none ..
  | row a n c news h0 hl hc => exact .some _ _ _ _ hl (C.cells hc)
def Mem.over (m : Mem) (w : World) (F : List Nat) : Mem := fun a => if a.block ∈ F then w.cell? a else m a
theorem Ctx.slShare {q : Option Addr} {n cap : Nat} {cs : List Value} {ty : TypeId} {sz : Nat} (C : Ctx F0 m0 w0 w L m (slA (.slice q n cap) n cs ty sz :: As)) :
    ∃ m', m.le m' ∧ MSrc m' sz (.slice q n cap) n cs ∧ Ctx F0 m0 w0 w L m' As := by
  obtain ⟨q', cap', e, h2, h3, h4, h⟩ := C.slO
  injection e with e1 _ e2; subst e1; subst e2
  rcases h with ⟨rfl, C'⟩ | ⟨b, pre, rest, rfl, hl, C'⟩
  · have : n = 0 := by omega
    subst this
    have : cs = [] := List.eq_nil_of_length_eq_zero (by simpa using h2)
    subst this; exact ⟨m, Mem.le_refl _, .nil .., C'⟩
  · refine ⟨_, C'.share_le, MSrc.mk h2 (fun a ha => ?_) (fun h => by cases h), C'.share⟩
    injection ha with ha; subst ha
    refine Mem.plus_cells _ _ _ _ _ fun j v hj => ?_
    have hlt := (List.getElem?_eq_some_iff.1 hj).1
    rw [List.append_assoc, List.getElem?_append_right (by omega), List.getElem?_append_left (by omega), ← hj]
    congr 1; omega
end

def byV (l : List UInt8) : List Value := l.map fun b => .int .u8 b.toNat
theorem byV_len (l : List UInt8) : (byV l).length = l.length := by simp [byV]
theorem byV_one (l : List UInt8) : ∀ u ∈ byV l, oneC u = true := by
  intro u hu; simp only [byV, List.mem_map] at hu; obtain ⟨b, _, rfl⟩ := hu; rfl
theorem byV_append (l k : List UInt8) : byV (l ++ k) = byV l ++ byV k := by simp [byV]
def memOf (w : World) : Mem := fun a => w.cell? a
section
variable {H : Type} {enc : TypeId × Value → H} {P : Program} {w : World} {sp : Nat → Bool} {held : Bool} {fuel : Nat} {t e : TypeId} {cs : List Value} {x : DataW H × List MemPlace}
theorem trod_elems (ht : P.underlying t = some (.slice e)) (h : DataW.trod enc P w 0 sp held fuel t cs = some x) :
    ∃ q n c f, cs = [.slice q n c] ∧ n ≤ maxLen ∧ (q = none → n = 0) ∧ ∀ a, q = some a → ∀ i, i < n → ∃ ec y, ec.length = P.cellsOf e ∧ MCells (memOf w) (a.add (i * P.cellsOf e)) ec ∧ DataW.trod enc P w 0 sp held f e ec = some y := by
  rcases DataW.trod_slice ht h with ⟨rfl, _⟩ | ⟨a, len, cap, elems, rest, n, _, rfl, rfl, hb, hl, hm, hlen, hel, _⟩
  · exact ⟨none, 0, 0, 0, rfl, by simp [maxLen], fun _ => rfl, (fun a h => by cases h)⟩
  · refine ⟨some a, len, cap, n, rfl, by omega, (fun h => by cases h), fun a' ha i hi => ?_⟩
    injection ha with ha; subst ha
    have := hel i hi
    rw [List.getElem?_eq_getElem (by omega)] at this
    simp only [Option.bind_eq_some_iff] at this
    obtain ⟨ec, h1, h2⟩ := this
    obtain ⟨_, g2, g3⟩ := World.cells?_some h1
    refine ⟨ec, _, g2, fun j v hj => ?_, h2⟩
    have hjl := (List.getElem?_eq_some_iff.1 hj).1
    show w.cell? _ = _
    rw [g3 j (by omega)]; exact hj
theorem exists_list {α : Type} {n : Nat} {p : Nat → α → Prop} (h : ∀ i, i < n → ∃ y, p i y) : ∃ l : List α, l.length = n ∧ ∀ i (hi : i < l.length), p i l[i] := by
  induction n with
  | zero => exact ⟨[], rfl, fun i hi => by simp at hi⟩
  | succ n ih =>
    obtain ⟨l, hl, hp⟩ := ih fun i hi => h i (by omega)
    obtain ⟨y, hy⟩ := h n (by omega)
    refine ⟨l ++ [y], by simp [hl], fun i hi => ?_⟩
    by_cases hlt : i < l.length
    · rw [List.getElem_append_left hlt]; exact hp i hlt
    · have : i = n := by simp at hi; omega
      subst this
      rw [List.getElem_append_right (by omega)]
      simpa [hl] using hy
theorem fit1_len1 {t : Ty} {l : List Value} (h : Fit [t] l) : ∃ v, l = [v] ∧ Fit1 t v := by
  cases l with
  | nil => exact h.elim
  | cons v r => cases r with
    | nil => exact ⟨v, rfl, h.1⟩
    | cons _ _ => exact h.2.elim
theorem trod_bytes (ht : P.underlying t = some (.slice e)) (he : P.underlying e = some (.int .u8)) (hc : P.cellsOf e = 1) (h : DataW.trod enc P w 0 sp held fuel t cs = some x) :
    ∃ q c bs, cs = [.slice q (bs : List UInt8).length c] ∧ bs.length ≤ maxLen ∧ MSrc (memOf w) 1 (.slice q bs.length c) bs.length (byV bs) := by
  obtain ⟨q, n, c, f, rfl, hm, h0, h1⟩ := trod_elems ht h
  cases q with
  | none =>
    obtain rfl := h0 rfl
    exact ⟨none, c, [], rfl, by simp [maxLen], .nil ..⟩
  | some a =>
    have key : ∀ i, i < n → ∃ b : UInt8, w.cell? (a.add i) = some (.int .u8 b.toNat) := fun i hi => by
      obtain ⟨ec, y, hl, hcell, htr⟩ := h1 a rfl i hi
      have F := fit_of_trod 1 f e _ _ (by simp [layB, he]) htr
      have E : cellTys P 1 e = [.int .u8] := by simp [cellTys, he, tyOf]
      rw [E] at F
      obtain ⟨v, rfl, k, rfl, hw⟩ := fit1_len1 F
      have hr : 0 ≤ k ∧ k < 256 := by
        simp [Lit.wf, IntKind.min, IntKind.max, IntKind.bits, IntKind.signed] at hw; omega
      refine ⟨UInt8.ofNat k.toNat, ?_⟩
      have h2 : w.cell? ((a.add (i * P.cellsOf e)).add 0) = some (.int .u8 k) := hcell 0 _ rfl
      rw [hc, Nat.mul_one, Addr.add_zero'] at h2
      rw [h2]
      have : ((UInt8.ofNat k.toNat).toNat : Int) = k := by
        have h3 : (UInt8.ofNat k.toNat).toNat = k.toNat % 256 := rfl
        rw [h3, Nat.mod_eq_of_lt (by omega)]; omega
      rw [this]
    obtain ⟨bs, hbl, hb⟩ := exists_list key
    subst hbl
    refine ⟨some a, c, bs, rfl, hm, MSrc.mk (by simp [byV]) (fun a' ha j v hj => ?_) (fun h => by cases h)⟩
    injection ha with ha; subst ha
    simp only [byV, List.getElem?_map] at hj
    cases hx : bs[j]? with
    | none => rw [hx] at hj; cases hj
    | some b =>
      rw [hx] at hj
      simp only [Option.map_some, Option.some.injEq] at hj
      subst hj
      obtain ⟨hlt, he⟩ := List.getElem?_eq_some_iff.1 hx
      have := hb j hlt
      rw [he] at this
      exact this
end
end Go.X
namespace Go.X
open Go RowKit
def appB (P : Program) (t t2 e : TypeId) (sz bytes : Nat) : Bool :=
  (match P.underlying t with | some (.slice e') => e' == e | _ => false) && notZ P t2 &&
  (match P.info? e with
   | some i => i.size == sz && decide (i.bytes ≤ bytes) && (match i.zero with | some z => z.cells.size == sz | none => false)
   | none => false)
section
variable {P : Program} {F0 : List Nat} {m0 : Mem} {w0 w : World} {L : List Nat} {m : Mem} {As : List Asn}
theorem cutA_zero (q : Option Addr) (k z : Nat) : X.cutA q k 0 z = q := by
  unfold X.cutA
  split
  · rfl
  · cases q with
    | none => rfl
    | some a => simp [Addr.add_zero']
theorem Ctx.slCap {q : Option Addr} {n c : Nat} {cs : List Value} {ty : TypeId} {sz : Nat} (C : Ctx F0 m0 w0 w L m (slA (.slice q n c) n cs ty sz :: As)) : n ≤ c ∧ c ≤ maxLen ∧ cs.length = n * sz := by
  obtain ⟨q', cap', e, h2, h3, h4, h⟩ := C.slO
  injection e with e1 _ e2; subst e1; subst e2
  exact ⟨h3, h4, h2⟩
theorem Ctx.newDrop (C : Ctx F0 m0 w0 w L m As) (cs : List Value) (ty : TypeId) : Ctx F0 m0 w0 (w.alloc (.cells cs.toArray ty)) L m As := (C.alloc cs ty).drop
theorem Ctr.ret {F : List Nat} {ι : Type} {r : ι → Value} {post : ι → Mem → Prop} {Bs : ι → List Asn} {m' : Mem} {e : Ending} (i : ι) (he : e = .returned (r i)) (hp : post i m') (C : Ctx F m0 w0 w L m' (Bs i)) :
    ∃ i m' L, e = .returned (r i) ∧ post i m' ∧ Ctx F m0 w0 w L m' (Bs i) := ⟨i, m', L, he, hp, C⟩
end
theorem factsMore {u : World} {L : List Nat} {a : Addr} {vs : List Value} {F : Facts} (h : Cells u a vs) (hb : a.block < u.heap.size) (hL : a.block ∉ L) (k : FactsW F u L) : FactsW ((a, vs) :: F) u L := fun ad us hm => by
  rcases List.mem_cons.1 hm with e | hm
  · injection e with e1 e2; subst e1; subst e2; exact ⟨h, hb, hL⟩
  · exact k _ _ hm
section
variable {F0 : List Nat} {m0 : Mem} {w0 w : World} {L : List Nat} {m : Mem} {As : List Asn}
theorem Ctx.memFact {a : Addr} {v : Value} {vs : List Value} (C : Ctx F0 m0 w0 w L m As) (h : MCells m a (v :: vs)) {F : Facts} (k : FactsW F w L) : FactsW ((a, v :: vs) :: F) w L := by
  have h0 := C.cells h 0 v rfl
  have := World.block_lt_of_cell? w _ h0
  rw [addr_block] at this
  exact factsMore (C.cells h) this (C.cellsL h) k
end
end Go.X
