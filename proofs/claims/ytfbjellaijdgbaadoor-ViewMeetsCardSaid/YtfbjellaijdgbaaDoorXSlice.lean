import Derived.Test.YtfbjellaijdgbaaDoorXSep
set_option linter.unusedVariables false
set_option linter.unusedSimpArgs false
/- The engine, part 16: owned slices: append, copy. -/
namespace Go.X
open Go RowKit

/-- an owned slice: its elements' cells are cs (sz cells an element, type ty) -/
def slA (v : Value) (n : Nat) (cs : List Value) (ty : TypeId) (sz : Nat) : Asn :=
  ⟨fun w F => ∃ q cap, v = .slice q n cap ∧ cs.length = n * sz ∧ n ≤ cap ∧ cap ≤ maxLen ∧ ((cap = 0 ∧ F = []) ∨
    ∃ b pre rest, q = some ⟨b, pre.length, none⟩ ∧ F = [b] ∧ w.heap[b]? = some (.cells (pre ++ cs ++ rest).toArray ty (0, 0)) ∧ (cap - n) * sz ≤ rest.length),
  fun w w' F hk ⟨q, cap, h1, h2, h3, h4, h⟩ => ⟨q, cap, h1, h2, h3, h4, h.imp id fun ⟨b, pre, rest, g1, g2, g3, g4⟩ => ⟨b, pre, rest, g1, g2, by rw [hk b (by simp [g2])]; exact g3, g4⟩⟩⟩
/-- what is appended or copied: m elements, the cells news -/
inductive Src (w : World) (sz : Nat) : Value → Nat → List Value → Prop where
  | none (q : Option Addr) (c : Nat) : Src w sz (.slice q 0 c) 0 []
  | some (a : Addr) (m c : Nat) (news : List Value) : news.length = m * sz → Cells w a news → Src w sz (.slice (some a) m c) m news
  | str (s : ByteArray) : sz = 1 → Src w sz (.string s) s.size (s.data.toList.map fun b => .int .u8 b.toNat)
theorem Src.len {w : World} {sz : Nat} {x : Value} {m : Nat} {news : List Value} (h : Src w sz x m news) : news.length = m * sz := by
  cases h with
  | none => simp
  | some a m c news hl _ => exact hl
  | str s hs => subst hs; simp
theorem Src.mono {w w' : World} {sz : Nat} {x : Value} {m : Nat} {news : List Value} (h : Src w sz x m news) (k : ∀ a vs, Cells w a vs → Cells w' a vs) : Src w' sz x m news := by
  cases h with
  | none => exact .none ..
  | some a m c news hl hc => exact .some _ _ _ _ hl (k _ _ hc)
  | str s hs => exact .str s hs
section
variable {P : Program}
theorem run_lenOf {w : World} {sz : Nat} {x : Value} {m : Nat} {news : List Value} (h : Src w sz x m news) (w' : World) : (Builtin.lenOf x).run P w' = .ok m w' := by
  cases h <;> simp [Builtin.lenOf]
theorem run_firstCells {w : World} {sz : Nat} {x : Value} {m : Nat} {news : List Value} (h : Src w sz x m news) : (Builtin.firstCells sz m x).run P w = .ok news.toArray w := by
  cases h with
  | none q c =>
    cases q with
    | none => simp [Builtin.firstCells]
    | some a => simp [Builtin.firstCells, loadCells, loadCellsFrom]
  | some a m c news hl hc => exact run_firstCells_some (P := P) w sz m a m c news hl hc
  | str s hs =>
    have hx : (Array.map (fun b : UInt8 => Value.int IntKind.u8 (b.toNat : Int)) s.data).extract 0 s.size = Array.map (fun b : UInt8 => Value.int IntKind.u8 (b.toNat : Int)) s.data := by
      have hs : s.size = (Array.map (fun b : UInt8 => Value.int IntKind.u8 (b.toNat : Int)) s.data).size := by rw [Array.size_map]; rfl
      rw [hs, Array.extract_size]
    simp [Builtin.firstCells, hx]
    apply Array.ext'
    simp
theorem cells_drew {w : World} (a : Addr) (vs : List Value) (h : Cells w a vs) : Cells w.drew a vs := h
/-- may not be a number's type (an append of so many zeros) -/
def notZ (P : Program) (t : TypeId) : Bool := match P.underlying t with | some (.slice _) | some .string => true | _ => false
theorem notZ_cases {P : Program} {t : TypeId} (h : notZ P t = true) : (∃ e, P.underlying t = some (.slice e)) ∨ P.underlying t = some .string := by
  unfold notZ at h
  split at h
  · rename_i e he; exact .inl ⟨e, he⟩
  · rename_i he; exact .inr he
  · cases h
def qset (w : World) (q : Option Addr) (k : Nat) (vs : List Value) : World := match q with | some a => w.setCells a.block (a.off + k) vs | none => w
theorem run_append_all {w : World} (t t2 ty e : TypeId) (i : TypeInfo) (z : Value) (ht : P.underlying t = some (.slice e)) (h2 : notZ P t2 = true) (hi : P.info? e = some i) (hz : i.zero = some z)
    (q : Option Addr) (n cap : Nat) (cs : List Value) (hcs : cs.length = n * i.size) (hq : ∀ a, q = some a → Cells w a cs) (hq0 : q = none → n = 0)
    (x : Value) (m : Nat) (news : List Value) (hs : Src w i.size x m news) (hn : n ≤ cap) (h63 : n + m ≤ maxLen) (h48 : (n + m) * i.bytes ≤ 140737488355328)
    (hone : ∀ u ∈ news, oneC u = true) (hroom : n + m ≤ cap → 0 < m * i.size → ∀ a, q = some a → a.spot = none ∧ World.there w a.block (a.off + n * i.size) (m * i.size)) :
    (Builtin.append_ #[t, t2] ty #[.slice q n cap, x]).run P w =
      if n + m ≤ cap then .ok (.slice q (n + m) cap) (qset w q (n * i.size) news)
      else .ok (.slice (some ⟨w.heap.size, 0, none⟩) (n + m) (grownCap w (n + m) cap e)) (w.drew.alloc (.cells (cs ++ news ++ (Builtin.zeroCells z.cells (grownCap w (n + m) cap e - (n + m))).toList).toArray e)) := by
  have hlen := hs.len
  by_cases hc : n + m ≤ cap
  · rw [if_pos hc]
    have hf := run_firstCells (P := P) hs
    cases q with
    | none =>
      rcases notZ_cases h2 with ⟨e2, hd⟩ | hd <;> simp [Builtin.append_, run_underlying ht, run_underlying hd, sizeOf, typeInfo, hi, run_lenOf hs, hc, hf, qset]
    | some a =>
      have hst : (storeCells (a.add (n * i.size)) news 0).run P w = .ok () (w.setCells a.block (a.off + n * i.size) news) := by
        by_cases hp : 0 < m * i.size
        · obtain ⟨hsp, hth⟩ := hroom hc hp a rfl
          obtain ⟨b, off, sp⟩ := a
          simp only at hsp hth ⊢
          subst hsp
          have := run_storeCells_cells (P := P) b (off + n * i.size) news 0 w (fun j hj => by simpa using (hth j (by omega)).1) (fun j hj => by simpa using (hth j (by omega)).2) (fun v hv => by rw [← oneC_eq]; exact hone v hv)
          rw [Addr.add_mid]
          simpa using this
        · have : news = [] := List.eq_nil_of_length_eq_zero (by omega)
          subst this
          simp [storeCells, World.setCells]
      rcases notZ_cases h2 with ⟨e2, hd⟩ | hd <;> simp [Builtin.append_, run_underlying ht, run_underlying hd, sizeOf, typeInfo, hi, run_lenOf hs, hc, hf, hst, qset]
  · rw [if_neg hc]
    have h63' : ¬ (9223372036854775807 < ((n : Int) + (m : Int))) := by unfold maxLen at h63; omega
    have h48' : ¬ (281474976710656 < Builtin.nextslicecap (n + m) cap * i.bytes) := by
      have := growslice_fits (need := n + m) (old := cap) (bytes := i.bytes) (by omega) h48
      omega
    have hf := run_firstCells (P := P) (w := w.drew) (hs.mono fun a vs h => h)
    have hfo : (Builtin.firstCells i.size n (.slice q n cap)).run P w.drew = .ok cs.toArray w.drew := by
      cases q with
      | none =>
        have : n = 0 := hq0 rfl
        subst this
        have : cs = [] := List.eq_nil_of_length_eq_zero (by simpa using hcs)
        subst this
        simp [Builtin.firstCells]
      | some a => exact run_firstCells_some (P := P) w.drew i.size n a n cap cs hcs (hq a rfl)
    have hfin : (cs.toArray ++ (news.toArray ++ Builtin.zeroCells z.cells (grownCap w (n + m) cap e - (n + m)))) = (cs ++ news ++ (Builtin.zeroCells z.cells (grownCap w (n + m) cap e - (n + m))).toList).toArray := by
      apply Array.ext'; simp
    rcases notZ_cases h2 with ⟨e2, hd⟩ | hd <;>
    · simp [Builtin.append_, run_underlying ht, run_underlying hd, sizeOf, typeInfo, zeroValue, hi, hz, run_lenOf hs, hc, h63', h48', Question.forced, hf, hfo, newRow, grownCap]
      congr 2
      apply Array.ext'
      simp [List.append_assoc]
end

section
variable {P : Program} {F0 : List Nat} {m0 : Mem} {w0 w : World} {L : List Nat} {m : Mem} {As : List Asn}
/-- an owned slice, opened -/
theorem Ctx.slO {v : Value} {n : Nat} {cs : List Value} {ty : TypeId} {sz : Nat} (C : Ctx F0 m0 w0 w L m (slA v n cs ty sz :: As)) :
    ∃ q cap, v = .slice q n cap ∧ cs.length = n * sz ∧ n ≤ cap ∧ cap ≤ maxLen ∧ ((cap = 0 ∧ Ctx F0 m0 w0 w L m As) ∨
      ∃ b pre rest, q = some ⟨b, pre.length, none⟩ ∧ (cap - n) * sz ≤ rest.length ∧ Ctx F0 m0 w0 w L m (blk b (pre ++ cs ++ rest) ty :: As)) := by
  obtain ⟨F, hF, ho⟩ := C.own
  obtain ⟨F1, F2, rfl, hd, ⟨q, cap, rfl, h2, h3, h4, h⟩, hr⟩ := hF
  refine ⟨q, cap, rfl, h2, h3, h4, ?_⟩
  rcases h with ⟨rfl, rfl⟩ | ⟨b, pre, rest, rfl, rfl, hb, hl⟩
  · exact .inl ⟨rfl, C.hid, C.f0, C.le, C.new, C.loc, F2, hr, ho⟩
  · exact .inr ⟨b, pre, rest, rfl, hl, C.hid, C.f0, C.le, C.new, C.loc, [b] ++ F2, ⟨[b], F2, rfl, hd, ⟨rfl, hb⟩, hr⟩, ho⟩
theorem Ctx.slNil {q : Option Addr} {ty : TypeId} {sz : Nat} (C : Ctx F0 m0 w0 w L m As) : Ctx F0 m0 w0 w L m (slA (.slice q 0 0) 0 [] ty sz :: As) :=
  C.sub fun F hF _ => ⟨F, ⟨[], F, rfl, by simp, ⟨q, 0, rfl, by simp, by omega, by simp [maxLen], .inl ⟨rfl, rfl⟩⟩, hF⟩, fun b hb => hb⟩
theorem Ctx.slI {b : Nat} {pre cs rest all : List Value} {n cap : Nat} {ty : TypeId} {sz : Nat} (he : all = pre ++ cs ++ rest) (h2 : cs.length = n * sz) (h3 : n ≤ cap) (h4 : cap ≤ maxLen) (h5 : (cap - n) * sz ≤ rest.length)
    (C : Ctx F0 m0 w0 w L m (blk b all ty :: As)) : Ctx F0 m0 w0 w L m (slA (.slice (some ⟨b, pre.length, none⟩) n cap) n cs ty sz :: As) :=
  C.sub fun F hF _ => by
    obtain ⟨F1, F2, rfl, hd, ⟨rfl, h1⟩, hr⟩ := hF
    exact ⟨_, ⟨[b], F2, rfl, hd, ⟨_, cap, rfl, h2, h3, h4, .inr ⟨b, pre, rest, rfl, rfl, by rw [← he]; exact h1, h5⟩⟩, hr⟩, fun b hb => hb⟩
/-- a new slice -/
theorem Ctx.slNew {cs : List Value} {n : Nat} {ty : TypeId} {sz : Nat} (h2 : cs.length = n * sz) (h4 : n ≤ maxLen) (C : Ctx F0 m0 w0 w L m As) :
    Ctx F0 m0 w0 (w.alloc (.cells cs.toArray ty)) L m (slA (.slice (some ⟨w.heap.size, 0, none⟩) n n) n cs ty sz :: As) :=
  Ctx.slI (pre := []) (rest := []) (by simp) h2 (Nat.le_refl _) h4 (by simp) (C.alloc cs ty)
/-- the cells of an owned slice -/
theorem Ctx.slCells {q : Option Addr} {n cap : Nat} {cs : List Value} {ty : TypeId} {sz : Nat} (C : Ctx F0 m0 w0 w L m (slA (.slice q n cap) n cs ty sz :: As)) : (∀ a, q = some a → Cells w a cs ∧ (cs ≠ [] → a.block ∉ L)) ∧ (q = none → cs = []) := by
  obtain ⟨q', cap', e, h2, h3, h4, h⟩ := C.slO
  injection e with e1 _ e2; subst e1; subst e2
  rcases h with ⟨rfl, C⟩ | ⟨b, pre, rest, rfl, hl, C⟩
  · have : cs = [] := List.eq_nil_of_length_eq_zero (by rw [h2]; have : n = 0 := by omega
                                                        simp [this])
    subst this
    exact ⟨fun a _ => ⟨fun j v hj => by simp at hj, fun h => absurd rfl h⟩, fun _ => rfl⟩
  · refine ⟨fun a ha => ?_, fun h => by cases h⟩
    injection ha with ha; subst ha
    refine ⟨C.blkCells fun j v hj => ?_, fun _ => C.blkAt.2⟩
    have hlt := (List.getElem?_eq_some_iff.1 hj).1
    rw [List.append_assoc, List.getElem?_append_right (by omega), List.getElem?_append_left (by omega)]
    rw [← hj]; congr 1; omega
theorem Ctx.slSrc {q : Option Addr} {n cap : Nat} {cs : List Value} {ty : TypeId} {sz : Nat} (C : Ctx F0 m0 w0 w L m (slA (.slice q n cap) n cs ty sz :: As)) : Src w sz (.slice q n cap) n cs := by
  obtain ⟨q', cap', e, h2, h3, h4, h⟩ := C.slO
  injection e with e1 _ e2; subst e1; subst e2
  rcases h with ⟨rfl, C'⟩ | ⟨b, pre, rest, rfl, hl, C'⟩
  · have : n = 0 := by omega
    subst this
    have : cs = [] := List.eq_nil_of_length_eq_zero (by simpa using h2)
    subst this
    exact .none ..
  · exact .some _ _ _ _ h2 (C.slCells.1 _ rfl).1
theorem splice_mid (pre cs rest news : List Value) (h : news.length ≤ rest.length) : splice (pre ++ cs ++ rest) (pre.length + cs.length) news = pre ++ (cs ++ news) ++ rest.drop news.length := by
  simp only [splice]
  have e1 : (pre ++ cs ++ rest).take (pre.length + cs.length) = pre ++ cs := by rw [← List.length_append]; exact List.take_left
  have e2 : (pre ++ cs ++ rest).drop (pre.length + cs.length + news.length) = rest.drop news.length := by
    rw [← List.length_append, ← List.drop_drop, List.drop_left]
  rw [e1, e2]; simp
/-- an append to an owned slice -/
theorem Ctx.append {v : Value} {n : Nat} {cs : List Value} {e : TypeId} {sz : Nat} (C : Ctx F0 m0 w0 w L m (slA v n cs e sz :: As))
    {t t2 ty : TypeId} {i : TypeInfo} {z : Value} (ht : P.underlying t = some (.slice e)) (h2 : notZ P t2 = true) (hi : P.info? e = some i) (hz : i.zero = some z) (hsz : i.size = sz) (hzs : z.cells.size = sz)
    {x : Value} {k : Nat} {news : List Value} (hs : Src w sz x k news) (h63 : n + k ≤ maxLen) (h48 : (n + k) * i.bytes ≤ 140737488355328) (hone : ∀ u ∈ news, oneC u = true) :
    ∃ q cap w', (Builtin.append_ #[t, t2] ty #[v, x]).run P w = .ok (.slice q (n + k) cap) w' ∧ Kept L w w' ∧ Ctx F0 m0 w0 w' L m (slA (.slice q (n + k) cap) (n + k) (cs ++ news) e sz :: As) := by
  subst hsz
  obtain ⟨q, cap, rfl, hl, hn, hcm, h⟩ := C.slO
  have hnl := hs.len
  have hcell := C.slCells
  have hq0 : q = none → n = 0 := fun hq => by
    rcases h with ⟨rfl, _⟩ | ⟨b, pre, rest, rfl, _⟩
    · omega
    · cases hq
  have hR := run_append_all (P := P) t t2 ty e i z ht h2 hi hz q n cap cs hl (fun a ha => (hcell.1 a ha).1) hq0 x k news hs hn h63 h48 hone (fun hc hp a ha => by
    rcases h with ⟨rfl, _⟩ | ⟨b, pre, rest, rfl, hr, C'⟩
    · have : k = 0 := by omega
      subst this; simp at hp
    · injection ha with ha; subst ha
      refine ⟨rfl, ?_⟩
      have hk : k * i.size ≤ rest.length := Nat.le_trans (Nat.mul_le_mul_right _ (by omega)) hr
      exact C'.there _ _ (by simp only [List.length_append]; omega))
  by_cases hc : n + k ≤ cap
  · rw [if_pos hc] at hR
    rcases h with ⟨rfl, C'⟩ | ⟨b, pre, rest, rfl, hr, C'⟩
    · have hk : k = 0 := by omega
      have hn' : n = 0 := by omega
      subst hk; subst hn'
      have : news = [] := List.eq_nil_of_length_eq_zero (by simpa using hnl)
      subst this
      have : cs = [] := List.eq_nil_of_length_eq_zero (by simpa using hl)
      subst this
      refine ⟨q, 0, w, ?_, ⟨Nat.le_refl _, fun _ _ => rfl⟩, C'.slNil⟩
      rw [hR]
      cases q <;> simp [World.setCells, qset]
    · have hk : k * i.size ≤ rest.length := Nat.le_trans (Nat.mul_le_mul_right _ (by omega)) hr
      have hst := C'.store (pre.length + n * i.size) news (by simp only [List.length_append]; omega)
      have hroom2 : (cap - (n + k)) * i.size ≤ (rest.drop news.length).length := by
        rw [List.length_drop, hnl]
        have : (cap - (n + k)) * i.size + k * i.size = (cap - n) * i.size := by rw [← Nat.add_mul]; congr 1; omega
        omega
      refine ⟨_, cap, _, hR, ?_, ?_⟩
      · exact (C'.turn (b := b) (B := Asn.emp) (w' := w.setCells b (pre.length + n * i.size) news) (fun F hF => hF.1) (setCells_hid ..) |> fun f => by
          have := setCells_hid w b (pre.length + n * i.size) news
          exact ⟨this.size, fun x hx => this.block x (C.loc x hx).2 (fun hc => by simp only [List.mem_singleton] at hc; subst hc; exact C'.blkAt.2 hx)⟩)
      · show Ctx F0 m0 w0 (w.setCells b (pre.length + n * i.size) news) L m _
        rw [← hl] at hst ⊢
        rw [splice_mid pre cs rest news (by omega)] at hst
        exact Ctx.slI rfl (by rw [List.length_append, hl, hnl, Nat.add_mul]) hc hcm (hroom2) hst
  · rw [if_neg hc] at hR
    refine ⟨_, _, _, hR, ⟨by simp, fun x hx => heap_alloc_old w.drew _ (C.loc x hx).2⟩, ?_⟩
    have hge := grownCap_ge w (n + k) cap e
    have hcm' := grownCap_le_maxLen w (n + k) cap e h63
    exact Ctx.slI (pre := []) (cs := cs ++ news) (by rw [List.nil_append]) (by rw [List.length_append, hl, hnl, Nat.add_mul]) hge hcm' (by simp [size_zeroCells, hzs]) (C.drop.drew.alloc _ e)
end
end Go.X
