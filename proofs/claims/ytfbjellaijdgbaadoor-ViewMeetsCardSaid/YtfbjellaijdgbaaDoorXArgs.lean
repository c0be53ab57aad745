import Derived.Test.YtfbjellaijdgbaaDoorXSlice
import Derived.Test.YtfbjellaijdgbaaDoorXFit
import Derived.ChangeArms
import Derived.DataElems
set_option linter.unusedVariables false
set_option linter.unusedSimpArgs false
/- The engine, part 17: what lies in the arguments; memory that is read as lists; a piece lent to a call. -/
namespace Go.X
open Go RowKit

/-- a slice that is read: m elements, the cells news -/
inductive MSrc (m : Mem) (sz : Nat) : Value → Nat → List Value → Prop where
  | nil (q : Option Addr) (c : Nat) : MSrc m sz (.slice q 0 c) 0 []
  | row (a : Addr) (n c : Nat) (news : List Value) : n ≠ 0 → news.length = n * sz → MCells m a news → MSrc m sz (.slice (some a) n c) n news
theorem MSrc.mono {m m' : Mem} {sz : Nat} {v : Value} {n : Nat} {cs : List Value} (h : MSrc m sz v n cs) (hm : m.le m') : MSrc m' sz v n cs := by
  cases h with
  | nil => exact .nil ..
  | row a n c news h0 hl hc => exact .row _ _ _ _ h0 hl (hc.mono hm)
theorem MSrc.len {m : Mem} {sz : Nat} {v : Value} {n : Nat} {cs : List Value} (h : MSrc m sz v n cs) : cs.length = n * sz := by
  cases h with
  | nil => simp
  | row a n c news h0 hl hc => exact hl
theorem MSrc.shape {m : Mem} {sz : Nat} {v : Value} {n : Nat} {cs : List Value} (h : MSrc m sz v n cs) : ∃ q c, v = .slice q n c := by
  cases h with
  | nil => exact ⟨_, _, rfl⟩
  | row a n c news h0 hl hc => exact ⟨_, _, rfl⟩
theorem MSrc.mk {m : Mem} {sz : Nat} {q : Option Addr} {n c : Nat} {cs : List Value} (hl : cs.length = n * sz) (h : ∀ a, q = some a → MCells m a cs) (h0 : q = none → n = 0) : MSrc m sz (.slice q n c) n cs := by
  by_cases hn : n = 0
  · subst hn
    have : cs = [] := List.eq_nil_of_length_eq_zero (by simpa using hl)
    subst this; exact .nil ..
  · cases q with
    | none => exact absurd (h0 rfl) hn
    | some a => exact .row _ _ _ _ hn hl (h a rfl)
theorem MSrc.none_len {m : Mem} {sz n c : Nat} {cs : List Value} (h : MSrc m sz (.slice none n c) n cs) : n = 0 ∧ cs = [] := by
  generalize hv : Value.slice none n c = v at h
  cases h with
  | nil => injection hv with _ h _; exact ⟨h, rfl⟩
  | row a n c news h0 hl hc => cases hv
/-- the cells of the elements from k on -/
theorem MSrc.cells {m : Mem} {sz : Nat} {q : Option Addr} {n c : Nat} {cs : List Value} (h : MSrc m sz (.slice q n c) n cs) {k : Nat} (hk : k < n) : ∃ a, q = some a ∧ MCells m (a.add (k * sz)) ((cs.drop (k * sz)).take sz) := by
  cases h with
  | nil => omega
  | row a n c news h0 hl hc =>
    refine ⟨a, rfl, fun j v hj => ?_⟩
    rw [Addr.add_add]
    rw [List.getElem?_take] at hj
    split at hj
    · rw [List.getElem?_drop] at hj; exact hc _ _ hj
    · cases hj
section
variable {F0 : List Nat} {m0 : Mem} {w0 w : World} {L : List Nat} {m : Mem} {As : List Asn}
theorem Ctx.src (C : Ctx F0 m0 w0 w L m As) {sz : Nat} {v : Value} {n : Nat} {cs : List Value} (h : MSrc m sz v n cs) : Src w sz v n cs := by
  cases h with
  | nil => exact .none ..
  | row a n c news h0 hl hc => exact .some _ _ _ _ hl (C.cells hc)
/-- what a piece lends -/
def Mem.over (m : Mem) (w : World) (F : List Nat) : Mem := fun a => if a.block ∈ F then w.cell? a else m a
theorem Mem.over_le {m : Mem} {w : World} {F : List Nat} (h : ∀ a v, m a = some v → a.block ∉ F) : m.le (m.over w F) := fun a v e => by
  simp only [Mem.over]; rw [if_neg (h a v e)]; exact e
/-- a call by its contract, with a piece lent for reading -/
theorem Ctr.callL {P : Program} {f : FuncId} {args : Array Value} {pre : Mem → Prop} {Cs : List Asn} {A : Asn} {ι : Type} {r : ι → Value} {φ : ι → Prop} {Bs : ι → List Asn} {R : Ending → World → Prop}
    (s : Ctr P f args pre Cs r (fun i _ => φ i) Bs) (C : Ctx F0 m0 w0 w L m (Cs ++ A :: As)) (hp : ∀ F, A.p w F → m.le (m.over w F) → pre (m.over w F))
    (k : ∀ i w', Kept L w w' → φ i → Ctx F0 m0 w0 w' L m (Bs i ++ A :: As) → R (.returned (r i)) w') : CallX P f args w R := by
  obtain ⟨F, hF, ho⟩ := C.own
  obtain ⟨F1, F2, rfl, hd, h1, h2⟩ := hF.split
  obtain ⟨G1, G2, rfl, hd2, g1, g2⟩ := h2
  have hmm : ∀ a v, m a = some v → a.block ∉ G1 := fun a v e hc => (ho.mem a v e).2.1 (by simp [hc])
  refine ⟨(s w F1 (m.over w G1) (fun b hb => (ho.inF b (by simp [hb])).1) (fun a v e => ?_) h1 (hp G1 g1 (Mem.over_le hmm))).mono ?_⟩
  · simp only [Mem.over] at e
    split at e
    · rename_i hc; exact ⟨e, fun hx => hd _ hx (by simp [hc])⟩
    · exact ⟨(ho.mem a v e).1, fun hc => (ho.mem a v e).2.1 (by simp [hc])⟩
  rintro e w' ⟨i, m', L', rfl, hpost, C'⟩
  obtain ⟨G, hG, hg⟩ := C'.own
  have hLk : ∀ b, b ∈ L → w'.heap[b]? = w.heap[b]? := fun b hb => C'.hid.block b (C.loc b hb).2 (fun hc => (ho.inF b (by simp [hc])).2.1 hb)
  have hF2 : ∀ b, b ∈ G1 ++ G2 → w'.heap[b]? = w.heap[b]? := fun b hb => C'.hid.block b (ho.inF b (by simp only [List.mem_append] at hb ⊢; exact .inr hb)).1 (fun hc => hd b hc hb)
  have hGin : ∀ b, b ∈ G → b ∈ F1 ∨ w.heap.size ≤ b := fun b hb => (hg.inF b hb).2.2
  refine k i w' ⟨C'.hid.size, hLk⟩ hpost ⟨hid_trans C.hid C'.hid (fun b hb => (ho.inF b (by simp [hb])).2.2), C.f0, C.le, C.new, fun b hb => ⟨(C.loc b hb).1, Nat.lt_of_lt_of_le (C.loc b hb).2 C'.hid.size⟩,
    G ++ (G1 ++ G2), Sat.append hG ⟨G1, G2, rfl, hd2, A.loc _ _ _ (fun b hb => hF2 b (by simp [hb])) g1, g2.frame fun b hb => hF2 b (by simp [hb])⟩ (fun b hb hc => ?_), fun b hb => ?_, fun a v e => ?_⟩
  · rcases hGin b hb with h | h
    · exact hd b h hc
    · have := (ho.inF b (by simp only [List.mem_append] at hc ⊢; exact .inr hc)).1; omega
  · rcases List.mem_append.1 hb with hb | hb
    · refine ⟨(hg.inF b hb).1, fun hc => ?_, ?_⟩
      · rcases hGin b hb with h | h
        · exact (ho.inF b (by simp [h])).2.1 hc
        · have := (C.loc b hc).2; omega
      · rcases hGin b hb with h | h
        · exact (ho.inF b (by simp [h])).2.2
        · exact .inr (Nat.le_trans C.hid.size h)
    · obtain ⟨q1, q2, q3⟩ := ho.inF b (by simp only [List.mem_append] at hb ⊢; exact .inr hb)
      exact ⟨Nat.lt_of_lt_of_le q1 C'.hid.size, q2, q3⟩
  · obtain ⟨q1, q2, q3⟩ := ho.mem a v e
    have hlt := World.block_lt_of_cell? w a q1
    have hnG : a.block ∉ G := fun hc => by
      rcases hGin _ hc with h | h
      · exact q2 (by simp [h])
      · omega
    refine ⟨(World.cell?_of_block (C'.hid.block _ hlt (fun hc => q2 (by simp [hc])))).trans q1, ?_, q3⟩
    simp only [List.mem_append, not_or] at q2 ⊢
    exact ⟨hnG, q2.2⟩
/-- an owned slice, lent -/
theorem slLend {q : Option Addr} {n cap : Nat} {cs : List Value} {ty : TypeId} {sz : Nat} {F : List Nat} (h : (slA (.slice q n cap) n cs ty sz).p w F) : MSrc (m.over w F) sz (.slice q n cap) n cs := by
  obtain ⟨q', cap', e, h2, h3, h4, h⟩ := h
  injection e with e1 _ e2; subst e1; subst e2
  rcases h with ⟨rfl, rfl⟩ | ⟨b, pre, rest, rfl, rfl, hb, hl⟩
  · have : n = 0 := by omega
    subst this
    have : cs = [] := List.eq_nil_of_length_eq_zero (by simpa using h2)
    subst this; exact .nil ..
  · refine MSrc.mk h2 (fun a ha => ?_) (fun h => by cases h)
    injection ha with ha; subst ha
    intro j v hj
    rw [Addr.add_mid]
    have hlt := (List.getElem?_eq_some_iff.1 hj).1
    simp only [Mem.over, List.mem_singleton, if_true, World.cell?, hb]
    simp only [Option.isSome_none, Bool.false_eq_true, if_false, List.getElem?_toArray]
    rw [List.append_assoc, List.getElem?_append_right (by omega), List.getElem?_append_left (by omega), ← hj]
    congr 1; omega
/-- an owned slice, from now on only read -/
theorem Ctx.slShare {q : Option Addr} {n cap : Nat} {cs : List Value} {ty : TypeId} {sz : Nat} (C : Ctx F0 m0 w0 w L m (slA (.slice q n cap) n cs ty sz :: As)) :
    ∃ m', m.le m' ∧ MSrc m' sz (.slice q n cap) n cs ∧ Ctx F0 m0 w0 w L m' As := by
  obtain ⟨q', cap', e, h2, h3, h4, h⟩ := C.slO
  injection e with e1 _ e2; subst e1; subst e2
  rcases h with ⟨rfl, C'⟩ | ⟨b, pre, rest, rfl, hl, C'⟩
  · have : n = 0 := by omega
    subst this
    have : cs = [] := List.eq_nil_of_length_eq_zero (by simpa using h2)
    subst this; exact ⟨m, Mem.le_refl _, .nil .., C'⟩
  · refine ⟨_, C'.share_le, MSrc.mk h2 (fun a ha => ?_) (fun h => by cases h), C'.share⟩
    injection ha with ha; subst ha
    refine Mem.plus_cells _ _ _ _ _ fun j v hj => ?_
    have hlt := (List.getElem?_eq_some_iff.1 hj).1
    rw [List.append_assoc, List.getElem?_append_right (by omega), List.getElem?_append_left (by omega), ← hj]
    congr 1; omega
end

/-! ### bytes -/
def byV (l : List UInt8) : List Value := l.map fun b => .int .u8 b.toNat
theorem byV_len (l : List UInt8) : (byV l).length = l.length := by simp [byV]
theorem byV_one (l : List UInt8) : ∀ u ∈ byV l, oneC u = true := by
  intro u hu; simp only [byV, List.mem_map] at hu; obtain ⟨b, _, rfl⟩ := hu; rfl
theorem byV_append (l k : List UInt8) : byV (l ++ k) = byV l ++ byV k := by simp [byV]
theorem byV_inj {l k : List UInt8} (h : byV l = byV k) : l = k := by
  unfold byV at h
  refine List.map_inj_right (f := fun b : UInt8 => Value.int .u8 b.toNat) (fun x y e => ?_) |>.1 h
  injection e with _ e
  exact UInt8.toNat_inj.1 (by omega)

/-! ### arguments -/
def memOf (w : World) : Mem := fun a => w.cell? a
section
variable {H : Type} {enc : TypeId × Value → H} {P : Program} {w : World} {sp : Nat → Bool} {held : Bool} {fuel : Nat} {t e : TypeId} {cs : List Value} {x : DataW H × List MemPlace}
theorem trod_elems (ht : P.underlying t = some (.slice e)) (h : DataW.trod enc P w 0 sp held fuel t cs = some x) :
    ∃ q n c f, cs = [.slice q n c] ∧ n ≤ maxLen ∧ (q = none → n = 0) ∧ ∀ a, q = some a → ∀ i, i < n → ∃ ec y, ec.length = P.cellsOf e ∧ MCells (memOf w) (a.add (i * P.cellsOf e)) ec ∧ DataW.trod enc P w 0 sp held f e ec = some y := by
  rcases DataW.trod_slice ht h with ⟨rfl, _⟩ | ⟨a, len, cap, elems, rest, n, _, rfl, rfl, hb, hl, hm, hlen, hel, _⟩
  · exact ⟨none, 0, 0, 0, rfl, by simp [maxLen], fun _ => rfl, (fun a h => by cases h)⟩
  · refine ⟨some a, len, cap, n, rfl, by omega, (fun h => by cases h), fun a' ha i hi => ?_⟩
    injection ha with ha; subst ha
    have := hel i hi
    rw [List.getElem?_eq_getElem (by omega)] at this
    simp only [Option.bind_eq_some_iff] at this
    obtain ⟨ec, h1, h2⟩ := this
    obtain ⟨_, g2, g3⟩ := World.cells?_some h1
    refine ⟨ec, _, g2, fun j v hj => ?_, h2⟩
    have hjl := (List.getElem?_eq_some_iff.1 hj).1
    show w.cell? _ = _
    rw [g3 j (by omega)]; exact hj
theorem trod_field {fs : Array Field} (ht : P.underlying t = some (.struct fs)) (h : DataW.trod enc P w 0 sp held fuel t cs = some x) (i : Nat) (ty o n : Nat) (hf : (fs[i]?).map (fun f => (f.type, f.offset)) = some (ty, o)) (hn : P.cellsOf ty = n) :
    ∃ g y, DataW.trod enc P w 0 sp held g ty ((cs.drop o).take n) = some y := by
  obtain ⟨xs, k, _, _, _, hl, hx⟩ := DataW.trod_struct ht h
  cases hq : fs[i]? with
  | none => rw [hq] at hf; cases hf
  | some f =>
    rw [hq] at hf
    simp only [Option.map_some, Option.some.injEq, Prod.mk.injEq] at hf
    obtain ⟨rfl, rfl⟩ := hf
    subst hn
    have hlt : i < xs.length := by rw [hl]; exact (Array.getElem?_eq_some_iff.1 hq).1
    exact ⟨k, _, (hx i f hq).trans (List.getElem?_eq_getElem hlt)⟩
theorem trod_len {fs : Array Field} (ht : P.underlying t = some (.struct fs)) (h : DataW.trod enc P w 0 sp held fuel t cs = some x) : cs.length = P.cellsOf t := by
  obtain ⟨xs, n, _, _, h1, _⟩ := DataW.trod_struct ht h
  exact h1
theorem exists_list {α : Type} {n : Nat} {p : Nat → α → Prop} (h : ∀ i, i < n → ∃ y, p i y) : ∃ l : List α, l.length = n ∧ ∀ i (hi : i < l.length), p i l[i] := by
  induction n with
  | zero => exact ⟨[], rfl, fun i hi => by simp at hi⟩
  | succ n ih =>
    obtain ⟨l, hl, hp⟩ := ih fun i hi => h i (by omega)
    obtain ⟨y, hy⟩ := h n (by omega)
    refine ⟨l ++ [y], by simp [hl], fun i hi => ?_⟩
    by_cases hlt : i < l.length
    · rw [List.getElem_append_left hlt]; exact hp i hlt
    · have : i = n := by simp at hi; omega
      subst this
      rw [List.getElem_append_right (by omega)]
      simpa [hl] using hy
theorem fit1_len1 {t : Ty} {l : List Value} (h : Fit [t] l) : ∃ v, l = [v] ∧ Fit1 t v := by
  cases l with
  | nil => exact h.elim
  | cons v r => cases r with
    | nil => exact ⟨v, rfl, h.1⟩
    | cons _ _ => exact h.2.elim
theorem trod_bytes (ht : P.underlying t = some (.slice e)) (he : P.underlying e = some (.int .u8)) (hc : P.cellsOf e = 1) (h : DataW.trod enc P w 0 sp held fuel t cs = some x) :
    ∃ q c bs, cs = [.slice q (bs : List UInt8).length c] ∧ bs.length ≤ maxLen ∧ MSrc (memOf w) 1 (.slice q bs.length c) bs.length (byV bs) := by
  obtain ⟨q, n, c, f, rfl, hm, h0, h1⟩ := trod_elems ht h
  cases q with
  | none =>
    obtain rfl := h0 rfl
    exact ⟨none, c, [], rfl, by simp [maxLen], .nil ..⟩
  | some a =>
    have key : ∀ i, i < n → ∃ b : UInt8, w.cell? (a.add i) = some (.int .u8 b.toNat) := fun i hi => by
      obtain ⟨ec, y, hl, hcell, htr⟩ := h1 a rfl i hi
      have F := fit_of_trod 1 f e _ _ (by simp [layB, he]) htr
      have E : cellTys P 1 e = [.int .u8] := by simp [cellTys, he, tyOf]
      rw [E] at F
      obtain ⟨v, rfl, k, rfl, hw⟩ := fit1_len1 F
      have hr : 0 ≤ k ∧ k < 256 := by
        simp [Lit.wf, IntKind.min, IntKind.max, IntKind.bits, IntKind.signed] at hw; omega
      refine ⟨UInt8.ofNat k.toNat, ?_⟩
      have h2 : w.cell? ((a.add (i * P.cellsOf e)).add 0) = some (.int .u8 k) := hcell 0 _ rfl
      rw [hc, Nat.mul_one, Addr.add_zero'] at h2
      rw [h2]
      have : ((UInt8.ofNat k.toNat).toNat : Int) = k := by
        have h3 : (UInt8.ofNat k.toNat).toNat = k.toNat % 256 := rfl
        rw [h3, Nat.mod_eq_of_lt (by omega)]; omega
      rw [this]
    obtain ⟨bs, hbl, hb⟩ := exists_list key
    subst hbl
    refine ⟨some a, c, bs, rfl, hm, MSrc.mk (by simp [byV]) (fun a' ha j v hj => ?_) (fun h => by cases h)⟩
    injection ha with ha; subst ha
    simp only [byV, List.getElem?_map] at hj
    cases hx : bs[j]? with
    | none => rw [hx] at hj; cases hj
    | some b =>
      rw [hx] at hj
      simp only [Option.map_some, Option.some.injEq] at hj
      subst hj
      obtain ⟨hlt, he⟩ := List.getElem?_eq_some_iff.1 hx
      have := hb j hlt
      rw [he] at this
      exact this
end
end Go.X
namespace Go.X
open Go RowKit
/-- one closed fact on an append -/
def appB (P : Program) (t t2 e : TypeId) (sz bytes : Nat) : Bool :=
  (match P.underlying t with | some (.slice e') => e' == e | _ => false) && notZ P t2 &&
  (match P.info? e with
   | some i => i.size == sz && decide (i.bytes ≤ bytes) && (match i.zero with | some z => z.cells.size == sz | none => false)
   | none => false)
section
variable {P : Program} {F0 : List Nat} {m0 : Mem} {w0 w : World} {L : List Nat} {m : Mem} {As : List Asn}
theorem Ctx.app {v : Value} {n : Nat} {cs : List Value} {e : TypeId} {sz bytes : Nat} (C : Ctx F0 m0 w0 w L m (slA v n cs e sz :: As))
    {t t2 : TypeId} (ty : TypeId) (hB : appB P t t2 e sz bytes = true) {x : Value} {k : Nat} {news : List Value} (hs : Src w sz x k news) (h48 : (n + k) * (bytes + 1) ≤ 140737488355328) (hone : ∀ u ∈ news, oneC u = true) :
    ∃ q cap w', (Builtin.append_ #[t, t2] ty #[v, x]).run P w = .ok (.slice q (n + k) cap) w' ∧ Kept L w w' ∧ Ctx F0 m0 w0 w' L m (slA (.slice q (n + k) cap) (n + k) (cs ++ news) e sz :: As) := by
  simp only [appB, Bool.and_eq_true] at hB
  obtain ⟨⟨h1, h2⟩, h3⟩ := hB
  split at h1
  · rename_i e' he
    have : e' = e := by simpa using h1
    subst this
    split at h3
    · rename_i i hi
      simp only [Bool.and_eq_true, beq_iff_eq, decide_eq_true_eq] at h3
      obtain ⟨⟨g1, g2⟩, g3⟩ := h3
      split at g3
      · rename_i z hz
        have hle : (n + k) * i.bytes ≤ (n + k) * (bytes + 1) := Nat.mul_le_mul_left _ (by omega)
        have hle2 : (n + k) * 1 ≤ (n + k) * (bytes + 1) := Nat.mul_le_mul_left _ (by omega)
        exact C.append he h2 hi hz g1 (by simpa using g3) hs (by unfold maxLen; omega) (by omega) hone
      · cases g3
    · cases h3
  · cases h1
/-- a piece that is not needed to be owned is put by -/
theorem cutA_zero (q : Option Addr) (k z : Nat) : X.cutA q k 0 z = q := by
  unfold X.cutA
  split
  · rfl
  · cases q with
    | none => rfl
    | some a => simp [Addr.add_zero']
/-- the room behind a slice is given up -/
theorem Ctx.slTrim {q : Option Addr} {n c : Nat} {cs : List Value} {ty : TypeId} {sz : Nat} (C : Ctx F0 m0 w0 w L m (slA (.slice q n c) n cs ty sz :: As)) : Ctx F0 m0 w0 w L m (slA (.slice q n n) n cs ty sz :: As) :=
  C.sub fun G hG _ => by
    obtain ⟨G1, G2, rfl, hd, ⟨q3, c3, e, g2, g3, g4, g⟩, hr⟩ := hG
    injection e with e1 _ e2; subst e1; subst e2
    refine ⟨_, ⟨G1, G2, rfl, hd, ⟨_, _, rfl, g2, Nat.le_refl _, by omega, ?_⟩, hr⟩, fun b hb => hb⟩
    rcases g with ⟨rfl, rfl⟩ | ⟨b, pre, rest, rfl, rfl, hb, hl⟩
    · exact .inl ⟨by omega, rfl⟩
    · exact .inr ⟨b, pre, rest, rfl, rfl, hb, by simp⟩
theorem Ctx.slCap {q : Option Addr} {n c : Nat} {cs : List Value} {ty : TypeId} {sz : Nat} (C : Ctx F0 m0 w0 w L m (slA (.slice q n c) n cs ty sz :: As)) : n ≤ c ∧ c ≤ maxLen ∧ cs.length = n * sz := by
  obtain ⟨q', cap', e, h2, h3, h4, h⟩ := C.slO
  injection e with e1 _ e2; subst e1; subst e2
  exact ⟨h3, h4, h2⟩
theorem Ctx.newDrop (C : Ctx F0 m0 w0 w L m As) (cs : List Value) (ty : TypeId) : Ctx F0 m0 w0 (w.alloc (.cells cs.toArray ty)) L m As := (C.alloc cs ty).drop
theorem alloc_keptL {L : List Nat} (C : Ctx F0 m0 w0 w L m As) (o : Obj) : Kept L w (w.alloc o) := C.kept ⟨rfl, rfl, rfl, by simp, Nat.le_refl _, fun b hb => heap_alloc_old w o hb⟩
theorem Ctr.ret {F : List Nat} {ι : Type} {r : ι → Value} {post : ι → Mem → Prop} {Bs : ι → List Asn} {m' : Mem} {e : Ending} (i : ι) (he : e = .returned (r i)) (hp : post i m') (C : Ctx F m0 w0 w L m' (Bs i)) :
    ∃ i m' L, e = .returned (r i) ∧ post i m' ∧ Ctx F m0 w0 w L m' (Bs i) := ⟨i, m', L, he, hp, C⟩
end
/-- facts of a region -/
theorem Ctx.factsNil (u : World) (L : List Nat) : FactsW [] u L := fun _ _ h => by cases h
theorem factsOne {u : World} {L : List Nat} {a : Addr} {vs : List Value} (h : Cells u a vs) (hb : a.block < u.heap.size) (hL : a.block ∉ L) : FactsW [(a, vs)] u L := fun ad us hm => by
  rcases List.mem_cons.1 hm with e | hm
  · injection e with e1 e2; subst e1; subst e2; exact ⟨h, hb, hL⟩
  · cases hm
theorem factsMore {u : World} {L : List Nat} {a : Addr} {vs : List Value} {F : Facts} (h : Cells u a vs) (hb : a.block < u.heap.size) (hL : a.block ∉ L) (k : FactsW F u L) : FactsW ((a, vs) :: F) u L := fun ad us hm => by
  rcases List.mem_cons.1 hm with e | hm
  · injection e with e1 e2; subst e1; subst e2; exact ⟨h, hb, hL⟩
  · exact k _ _ hm
section
variable {F0 : List Nat} {m0 : Mem} {w0 w : World} {L : List Nat} {m : Mem} {As : List Asn}
theorem Ctx.blkFact {b : Nat} {cs : List Value} {ty : TypeId} (C : Ctx F0 m0 w0 w L m (blk b cs ty :: As)) (o : Nat) (vs : List Value) (h : ∀ j v, vs[j]? = some v → cs[o + j]? = some v) {F : Facts} (k : FactsW F w L) : FactsW ((⟨b, o, none⟩, vs) :: F) w L :=
  factsMore (C.blkCells h) (Array.getElem?_eq_some_iff.1 C.blkAt.1).1 C.blkAt.2 k
theorem Ctx.blkFact1 {b : Nat} {cs : List Value} {ty : TypeId} (C : Ctx F0 m0 w0 w L m (blk b cs ty :: As)) (o : Nat) (v : Value) (h : cs[o]? = some v) {F : Facts} (k : FactsW F w L) : FactsW ((⟨b, o, none⟩, [v]) :: F) w L :=
  C.blkFact o [v] (fun j u e => by cases j with
    | zero => rw [Nat.add_zero]; exact h.trans e
    | succ j => simp at e) k
theorem Ctx.memFact {a : Addr} {v : Value} {vs : List Value} (C : Ctx F0 m0 w0 w L m As) (h : MCells m a (v :: vs)) {F : Facts} (k : FactsW F w L) : FactsW ((a, v :: vs) :: F) w L := by
  have h0 := C.cells h 0 v rfl
  have := World.block_lt_of_cell? w _ h0
  rw [addr_block] at this
  exact factsMore (C.cells h) this (C.cellsL h) k
end
end Go.X
