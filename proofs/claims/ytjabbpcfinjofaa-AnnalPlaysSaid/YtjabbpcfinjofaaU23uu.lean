import Derived.Test.YtjabbpcfinjofaaU23qq
import Derived.Test.YtjabbpcfinjofaaV23h
set_option linter.unusedVariables false
set_option linter.unusedSimpArgs false
set_option maxRecDepth 10000
namespace Go.Proofs
open Go X RowKit
/-! ### the document's annal -/
theorem own_elem {α : Type} {f : α → List Value} {k : Nat} (hk : ∀ a, (f a).length = k) (hk0 : k ≠ 0) {F0 : List Nat} {m0 : Mem} {w0 w : World} {L : List Nat} {m : Mem} {As : List Asn} {q : Sl} {l : List α} {ty : TypeId} (C : Ctx F0 m0 w0 w L m (slA (slV q l.length) l.length (l.flatMap f) ty k :: As)) {j : Nat} (hj : j < l.length) :
    ∃ a, q.1 = some a ∧ Cells w (a.add (j * k)) (f l[j]) ∧ a.block ∉ L := by
  have hc := C.slCells
  have hfl := flat_len hk l
  have hne : l.flatMap f ≠ [] := fun e => by
    rw [e] at hfl
    have : l.length * k = 0 := by simpa using hfl.symm
    rcases Nat.mul_eq_zero.1 this with h | h
    · omega
    · exact hk0 h
  cases hp : q.1 with
  | none => exact absurd (hc.2 hp) hne
  | some a => exact ⟨a, rfl, cells_elem hk (hc.1 a hp).1 j hj, (hc.1 a hp).2 hne⟩
structure Ra where (sb se st ss : Sl) (B : List Bg) (E : List Ed) (T : List Td) (S : List St) (p : Nat → Sl) (o : Nat → List En) (sp : Int)
@[reducible] def Ra.cells (r : Ra) : List Value := [slV r.sb r.B.length, slV r.se r.E.length, slV r.st r.T.length, slV r.ss r.S.length, slV (r.p 0) (r.o 0).length, slV (r.p 1) (r.o 1).length, slV (r.p 2) (r.o 2).length, slV (r.p 3) (r.o 3).length, .int .i64 r.sp]
abbrev ensR (p : Sl) (l : List En) : Asn := slA (slV p l.length) l.length (l.flatMap En.row) 52 18
abbrev Ra.as (r : Ra) (b : Nat) : List Asn := [blk b r.cells 68, slA (slV r.sb r.B.length) r.B.length (r.B.flatMap Bg.row) 38 14, slA (slV r.se r.E.length) r.E.length (r.E.flatMap Ed.row) 42 17, slA (slV r.st r.T.length) r.T.length (r.T.flatMap Td.row) 47 17, slA (slV r.ss r.S.length) r.S.length (r.S.flatMap St.row) 49 5, ensR (r.p 0) (r.o 0), ensR (r.p 1) (r.o 1), ensR (r.p 2) (r.o 2), ensR (r.p 3) (r.o 3)]
structure Ra.M (r : Ra) (m : Mem) : Prop where
  e : ∀ g, ∀ e ∈ r.o g, EnM m e
  b : ∀ v ∈ r.B, v.M m
  t : ∀ v ∈ r.T, v.v.M m
  s : ∀ v ∈ r.S, v.v.M m
theorem Ra.M.mono {r : Ra} {m m' : Mem} (h : r.M m) (hm : m.le m') : r.M m' := ⟨fun g e he => (h.e g e he).mono hm, fun v hv => MSrc.mono (h.b v hv) hm, fun v hv => MSrc.mono (h.t v hv) hm, fun v hv => MSrc.mono (h.s v hv) hm⟩
structure Ra.few (r : Ra) : Prop where
  b : r.B.length ≤ 100000
  e : r.E.length ≤ 100000
  t : r.T.length ≤ 100000
  s : r.S.length ≤ 100000
def Ra.er (r : Ra) : Fv := ⟨r.B.map Bg.er, r.E, r.T.map Td.er, r.S.map St.er, fun g => (r.o g).map En.er, r.sp⟩
theorem rer_B (r : Ra) : r.er.B.map (fun v => v.id) = r.B.map (fun v => v.id) := by show (r.B.map Bg.er).map _ = _; rw [List.map_map]; rfl
theorem rer_T (r : Ra) : r.er.T.map (fun v => v.key) = r.T.map (fun v => v.key) := by show (r.T.map Td.er).map _ = _; rw [List.map_map]; rfl
theorem rer_S (r : Ra) : r.er.S.map (fun v => v.key) = r.S.map (fun v => v.key) := by show (r.S.map St.er).map _ = _; rw [List.map_map]; rfl
theorem i_beq (y x : I) : ((((y.n == x.n) && (y.l == x.l)) && ((y.s == x.s) && ((y.d == x.d) && (((y.g0 == x.g0) && (y.i0 == x.i0)) && (((y.g1 == x.g1) && (y.i1 == x.i1)) && ((y.g2 == x.g2) && (y.i2 == x.i2))))))) = true) ↔ y = x := by
  simp only [Bool.and_eq_true, beq_iff_eq]
  constructor
  · rintro ⟨⟨h1, h2⟩, h3, h4, ⟨h5, h6⟩, ⟨h7, h8⟩, h9, h10⟩
    exact i_ext ⟨h1, h2, h3, h4, h5, h6, h7, h8, h9, h10⟩
  · rintro rfl; exact ⟨⟨rfl, rfl⟩, rfl, rfl, ⟨rfl, rfl⟩, ⟨rfl, rfl⟩, rfl, rfl⟩
theorem take_no {α β : Type} [DecidableEq β] {l : List α} {g : α → β} {x : β} {j : Nat} (hj : j < l.length) (h : x ∉ (l.take j).map g) (hn : g l[j] ≠ x) : x ∉ (l.take (j + 1)).map g := by
  rw [List.take_succ_eq_append_getElem hj, List.map_append, List.mem_append]
  rintro (h2 | h2)
  · exact h h2
  · simp at h2; exact hn h2.symm
theorem c_rBegun (b : Nat) (r : Ra) (x : I) (hl : r.B.length ≤ 100000) : Ctr Try.prog 65 #[.pointer (some ⟨b, 0, none⟩), x.V] noMem (r.as b) (fun n : {n : Int // n < 0 ↔ x ∉ r.B.map fun v => v.id} => .int .i64 n.1) (fun _ _ => True) (fun _ => r.as b) := by
  refine Ctr.mk fun w F m C _ => x_rBegun _ _ _ _ _ _ _ _ _ _ _ w _ fun w1 L2 h1 g1 => ?_
  refine ⟨fun i w' L' => ∃ j : Nat, i = j ∧ j ≤ r.B.length ∧ x ∉ (r.B.take j).map (fun v => v.id) ∧ Ctx F m w w' L' m (r.as b), fun i _ => (r.B.length - i).toNat, ⟨0, rfl, by omega, by simp, C.hidL h1 g1⟩, ?_⟩
  clear C
  rintro i w6 L7 _ ⟨j, rfl, hj, hx, D⟩
  refine ⟨r.sb.1, r.B.length, r.sb.2, by rw [Addr.add_mid]; exact D.blkCell (j := 0) rfl, D.blkAt.2, ?_⟩
  by_cases hjl : j < r.B.length
  rotate_left
  · rw [if_neg (by simpa using hjl)]
    have hj2 : j = r.B.length := by omega
    rw [hj2, List.take_length] at hx
    exact Ctr.ret (m' := m) ⟨-1, ⟨fun _ => hx, fun _ => by omega⟩⟩ rfl trivial D
  rw [if_pos (by simpa using hjl)]
  refine ⟨r.sb.1, r.B.length, r.sb.2, by rw [Addr.add_mid]; exact D.blkCell (j := 0) rfl, D.blkAt.2, by omega, by simpa using hjl, ?_⟩
  obtain ⟨a, ha, hc, hnl⟩ := own_elem bg_len (by decide) D.swap hjl
  rw [ha, onSome_some]
  refine ⟨_, _, _, _, _, _, _, _, _, _, by rw [Int.toNat_natCast]; exact cells_part hc 0 r.B[j].id.row (fun k v e => by match k, e with | 0, e => exact e | 1, e => exact e | 2, e => exact e | 3, e => exact e | 4, e => exact e | 5, e => exact e | 6, e => exact e | 7, e => exact e | 8, e => exact e | 9, e => exact e), by rw [addr_block, addr_block]; exact hnl, ?_⟩
  by_cases he : r.B[j].id = x
  · rw [if_pos ((i_beq _ _).2 he)]
    have hin : x ∈ r.B.map fun v => v.id := List.mem_map.2 ⟨_, List.getElem_mem hjl, he⟩
    exact fun w27 h27 => Ctr.ret (m' := m) (L := []) ⟨(j : Int), ⟨fun h => by omega, fun h => absurd hin h⟩⟩ rfl trivial (D.hid0 h27)
  · rw [if_neg (fun h => he ((i_beq _ _).1 h))]
    intro w25 L26 h25 g25
    have e : IntKind.wrap .i64 ((j : Int) + 1) = ((j + 1 : Nat) : Int) := by rw [w_i64 (by omega) (by omega)]; omega
    rw [e]
    exact ⟨rfl, ⟨j + 1, rfl, hjl, take_no hjl hx he, D.hidL h25 g25⟩, Nat.le_of_eq (by show ((r.B.length : Int) - ((j + 1 : Nat) : Int)).toNat + 1 = ((r.B.length : Int) - (j : Int)).toNat; omega)⟩
theorem c_rBegin (b : Nat) (r : Ra) (v : Bg) (hf : r.few) : Ctr Try.prog 36 #[.pointer (some ⟨b, 0, none⟩), .agg v.row.toArray] (fun m => r.M m ∧ v.M m) (r.as b)
    (fun _ : Ra => .bool (beginV r.er v).1) (fun g m => g.M m ∧ g.er = (beginV r.er v).2) (fun g => g.as b) := by
  refine Ctr.mk fun w F m C hp => x_rBegin _ _ _ _ _ _ _ _ _ _ _ _ _ _ _ _ _ w _ fun w1 L2 h1 g1 => ?_
  obtain ⟨hM, hv⟩ := hp
  have hlen := hf.b
  have ev : beginV r.er v = if v.id ∈ r.B.map (fun v => v.id) then (false, r.er) else (true, { r.er with B := r.er.B ++ [v.er] }) := by rw [beginV, rer_B]
  refine (c_rBegun b r v.id hf.b).call (As := []) (C.hidL h1 g1) trivial fun n m1 w4 hk hm1 _ C => ⟨_, rfl, hk, ?_⟩
  obtain ⟨n, hn⟩ := n
  replace C : Ctx F m w w4 L2 m1 (r.as b) := C
  replace hM := hM.mono hm1
  by_cases hkk : v.id ∈ r.B.map fun v => v.id
  · rw [if_pos (by have : ¬ n < 0 := fun h => (hn.1 h) hkk; simp; omega)]
    exact Ctr.ret (m' := m1) r (by rw [ev, if_pos hkk]) ⟨hM, by rw [ev, if_pos hkk]⟩ C
  rw [if_neg (by have := hn.2 hkk; simp; omega)]
  simp only [Addr.add_mid]
  have fx : ∀ {w' L' m'} {As : List Asn}, Ctx F m w w' L' m' (blk b r.cells 68 :: As) → FactsW [(⟨b, 0, none⟩, [slV r.sb r.B.length])] w' L' := fun C => C.blkFact1 0 _ rfl (facts_nil _ _)
  refine ⟨_, fx C, r.sb.1, r.B.length, r.sb.2, by simp [Addr.add_mid], fun w10 L11 h10 g10 => ?_⟩
  have E0 := (C.hidL h10 g10).alloc v.row 38
  have hcl : Cells _ ⟨w10.heap.size, 0, none⟩ v.row := E0.blkCells (o := 0) fun k u e => by simpa using e
  have E1 := E0.pm [2, 0, 1, 3, 4, 5, 6, 7, 8, 9] rfl
  obtain ⟨q2, c2, w15, hr, hk9, E2⟩ := Ctx.app2 (P := Try.prog) (bytes := 120) (t := 61) (t2 := 61) E1 61 (by kernel_rfl) (.some ⟨w10.heap.size, 0, none⟩ 1 1 v.row rfl hcl) (by unfold maxLen; omega) (by omega) (bg_one _)
  have E3 := E2.pk [2, 0, 3, 4, 5, 6, 7, 8, 9] [1] rfl
  have e1 : (r.B ++ [v]).length = r.B.length + 1 := by simp
  have e2 : (r.B ++ [v]).flatMap Bg.row = r.B.flatMap Bg.row ++ v.row := by simp
  refine ⟨fx E0.swap, q2, r.B.length + 1, c2, w15, hr, hk9, fx E3, (by first | trivial | rfl), E3.there 0 1 (by simp), E3.blkAt.2, ?_⟩
  have E4 := E3.store 0 [slV (q2, c2) (r.B.length + 1)] (by simp)
  rw [← e2] at E4
  rw [← e1] at E4 ⊢
  exact Ctr.ret (m' := m1) (L := L11) { r with sb := (q2, c2), B := r.B ++ [v] } (by rw [ev, if_neg hkk]) ⟨⟨hM.e, fun u hu => by rcases List.mem_append.1 hu with hu | hu; exact hM.b u hu; simp at hu; subst hu; exact MSrc.mono hv hm1, hM.t, hM.s⟩, by rw [ev, if_neg hkk]; simp [Ra.er]; try rfl⟩ E4
theorem c_rEnd (b : Nat) (r : Ra) (v : Ed) (hf : r.few) : Ctr Try.prog 37 #[.pointer (some ⟨b, 0, none⟩), .agg v.row.toArray] (fun m => r.M m) (r.as b)
    (fun _ : Ra => .bool (endV r.er v).1) (fun g m => g.M m ∧ g.er = (endV r.er v).2) (fun g => g.as b) := by
  refine Ctr.mk fun w F m C hM => x_rEnd _ _ _ _ _ _ _ _ _ _ _ _ _ _ _ _ _ _ w _ fun w1 L2 h1 g1 => ?_
  have hlen := hf.e
  have hev : endV r.er v = if v.id ∉ r.B.map (fun v => v.id) ∨ v.id ∈ r.E.map (fun v => v.id) then (false, r.er) else (true, { r.er with E := r.er.E ++ [v] }) := by rw [endV, rer_B]; rfl
  refine ⟨fun i w' L' => ∃ j : Nat, i = j ∧ j ≤ r.E.length ∧ v.id ∉ (r.E.take j).map (fun v => v.id) ∧ Ctx F m w w' L' m (r.as b), fun i _ => (r.E.length - i).toNat, ⟨0, rfl, by omega, by simp, C.hidL h1 g1⟩, ?_⟩
  clear C
  rintro i w6 L7 _ ⟨j, rfl, hj, hx, D⟩
  refine ⟨r.se.1, r.E.length, r.se.2, by rw [Addr.add_mid]; exact D.blkCell (j := 1) rfl, D.blkAt.2, ?_⟩
  by_cases hjl : j < r.E.length
  · rw [if_pos (by simpa using hjl)]
    refine ⟨r.se.1, r.E.length, r.se.2, by rw [Addr.add_mid]; exact D.blkCell (j := 1) rfl, D.blkAt.2, by omega, by simpa using hjl, ?_⟩
    obtain ⟨a, ha, hc, hnl⟩ := own_elem ed_len (by decide) D.third hjl
    rw [ha, onSome_some]
    refine ⟨_, _, _, _, _, _, _, _, _, _, by rw [Int.toNat_natCast]; exact cells_part hc 0 r.E[j].id.row (fun k v e => by match k, e with | 0, e => exact e | 1, e => exact e | 2, e => exact e | 3, e => exact e | 4, e => exact e | 5, e => exact e | 6, e => exact e | 7, e => exact e | 8, e => exact e | 9, e => exact e), by rw [addr_block, addr_block]; exact hnl, ?_⟩
    by_cases he : r.E[j].id = v.id
    · rw [if_pos ((i_beq _ _).2 he)]
      have hin : v.id ∈ r.E.map fun v => v.id := List.mem_map.2 ⟨_, List.getElem_mem hjl, he⟩
      exact fun w27 h27 => Ctr.ret (m' := m) (L := []) r (by rw [hev, if_pos (.inr hin)]) ⟨hM, by rw [hev, if_pos (.inr hin)]⟩ (D.hid0 h27)
    · rw [if_neg (fun h => he ((i_beq _ _).1 h))]
      intro w25 L26 h25 g25
      have e : IntKind.wrap .i64 ((j : Int) + 1) = ((j + 1 : Nat) : Int) := by rw [w_i64 (by omega) (by omega)]; omega
      rw [e]
      exact ⟨rfl, ⟨j + 1, rfl, hjl, take_no hjl hx he, D.hidL h25 g25⟩, Nat.le_of_eq (by show ((r.E.length : Int) - ((j + 1 : Nat) : Int)).toNat + 1 = ((r.E.length : Int) - (j : Int)).toNat; omega)⟩
  rw [if_neg (by simpa using hjl)]
  have hj2 : j = r.E.length := by omega
  rw [hj2, List.take_length] at hx
  refine (c_rBegun b r v.id hf.b).call (As := []) D trivial fun n m1 w4 hk hm1 _ C => ⟨_, rfl, hk, ?_⟩
  obtain ⟨n, hn⟩ := n
  replace C : Ctx F m w w4 L7 m1 (r.as b) := C
  replace hM := hM.mono hm1
  have ev : endV r.er v = if v.id ∉ r.B.map (fun v => v.id) then (false, r.er) else (true, { r.er with E := r.er.E ++ [v] }) := by
    rw [hev]
    by_cases h : v.id ∉ r.B.map (fun v => v.id)
    · rw [if_pos (.inl h), if_pos h]
    · rw [if_neg (fun h2 => h2.elim h hx), if_neg h]
  by_cases hkk : v.id ∉ r.B.map fun v => v.id
  · rw [if_pos (by have := hn.2 hkk; simpa using this)]
    exact Ctr.ret (m' := m1) r (by rw [ev, if_pos hkk]) ⟨hM, by rw [ev, if_pos hkk]⟩ C
  rw [if_neg (by have : ¬ n < 0 := fun h => hkk (hn.1 h); simpa using this)]
  simp only [Addr.add_mid]
  have fx : ∀ {w' L' m'} {As : List Asn}, Ctx F m w w' L' m' (blk b r.cells 68 :: As) → FactsW [(⟨b, 1, none⟩, [slV r.se r.E.length])] w' L' := fun C => C.blkFact1 1 _ rfl (facts_nil _ _)
  refine ⟨_, fx C, r.se.1, r.E.length, r.se.2, by simp [Addr.add_mid], fun w10 L11 h10 g10 => ?_⟩
  have E0 := (C.hidL h10 g10).alloc v.row 42
  have hcl : Cells _ ⟨w10.heap.size, 0, none⟩ v.row := E0.blkCells (o := 0) fun k u e => by simpa using e
  have E1 := E0.pm [3, 0, 1, 2, 4, 5, 6, 7, 8, 9] rfl
  obtain ⟨q2, c2, w15, hr, hk9, E2⟩ := Ctx.app2 (P := Try.prog) (bytes := 120) (t := 62) (t2 := 62) E1 62 (by kernel_rfl) (.some ⟨w10.heap.size, 0, none⟩ 1 1 v.row rfl hcl) (by unfold maxLen; omega) (by omega) (ed_one _)
  have E3 := E2.pk [2, 3, 0, 4, 5, 6, 7, 8, 9] [1] rfl
  have e1 : (r.E ++ [v]).length = r.E.length + 1 := by simp
  have e2 : (r.E ++ [v]).flatMap Ed.row = r.E.flatMap Ed.row ++ v.row := by simp
  refine ⟨fx E0.swap, q2, r.E.length + 1, c2, w15, hr, hk9, fx E3, (by first | trivial | rfl), E3.there 1 1 (by simp), E3.blkAt.2, ?_⟩
  have E4 := E3.store 1 [slV (q2, c2) (r.E.length + 1)] (by simp)
  rw [← e2] at E4
  rw [← e1] at E4 ⊢
  exact Ctr.ret (m' := m1) (L := L11) { r with se := (q2, c2), E := r.E ++ [v] } (by rw [ev, if_neg hkk]) ⟨⟨hM.e, hM.b, hM.t, hM.s⟩, by rw [ev, if_neg hkk]; simp [Ra.er]; try rfl⟩ E4
theorem td_beq (y x : Td) : ((((((y.f.n == x.f.n) && (y.f.l == x.f.l)) && (((y.id.n == x.id.n) && (y.id.l == x.id.l)) && ((y.id.s == x.id.s) && ((y.id.d == x.id.d) && (((y.id.g0 == x.id.g0) && (y.id.i0 == x.id.i0)) && (((y.id.g1 == x.id.g1) && (y.id.i1 == x.id.i1)) && ((y.id.g2 == x.id.g2) && (y.id.i2 == x.id.i2)))))))) && ((y.rc == x.rc) && (y.rv == x.rv))) && (y.v.g == x.v.g)) && (y.v.n == x.v.n)) = true ↔ y.key = x.key := by
  simp only [Bool.and_eq_true, beq_iff_eq, ba_eq, Td.key, Sd.mk.injEq]
  constructor
  · rintro ⟨⟨⟨⟨⟨a1, a2⟩, ⟨h1, h2⟩, h3, h4, ⟨h5, h6⟩, ⟨h7, h8⟩, h9, h10⟩, b1, b2⟩, c1⟩, c2⟩
    exact ⟨pr_ext ⟨a1, a2⟩, i_ext ⟨h1, h2, h3, h4, h5, h6, h7, h8, h9, h10⟩, b1, b2, c1, c2⟩
  · rintro ⟨a, h, b1, b2, c1, c2⟩
    rw [a, h]; exact ⟨⟨⟨⟨⟨rfl, rfl⟩, ⟨rfl, rfl⟩, rfl, rfl, ⟨rfl, rfl⟩, ⟨rfl, rfl⟩, rfl, rfl⟩, b1, b2⟩, c1⟩, c2⟩
theorem st_beq (y x : St) : ((((y.w.n == x.w.n) && (y.w.l == x.w.l)) && (y.v.g == x.v.g)) && (y.v.n == x.v.n)) = true ↔ y.key = x.key := by
  simp only [Bool.and_eq_true, beq_iff_eq, St.key, Pl.mk.injEq]
  constructor
  · rintro ⟨⟨⟨a1, a2⟩, c1⟩, c2⟩
    exact ⟨pr_ext ⟨a1, a2⟩, c1, c2⟩
  · rintro ⟨a, c1, c2⟩
    rw [a]; exact ⟨⟨⟨rfl, rfl⟩, c1⟩, c2⟩
theorem c_rTell (b : Nat) (r : Ra) (v : Td) (hf : r.few) : Ctr Try.prog 39 #[.pointer (some ⟨b, 0, none⟩), .agg v.row.toArray] (fun m => r.M m ∧ v.v.M m) (r.as b)
    (fun _ : Ra => .bool (tellV r.er v).1) (fun g m => g.M m ∧ g.er = (tellV r.er v).2) (fun g => g.as b) := by
  refine Ctr.mk fun w F m C hp => x_rTell _ _ _ _ _ _ _ _ _ _ _ _ _ _ _ _ _ _ _ _ w _ fun w1 L2 h1 g1 => ?_
  obtain ⟨hM, hv⟩ := hp
  have hlen := hf.t
  have ev : tellV r.er v = if v.key ∈ r.T.map (fun v => v.key) then (false, r.er) else (true, { r.er with T := r.er.T ++ [v.er] }) := by rw [tellV, rer_T]
  refine ⟨fun i w' L' => ∃ j : Nat, i = j ∧ j ≤ r.T.length ∧ v.key ∉ (r.T.take j).map (fun v => v.key) ∧ Ctx F m w w' L' m (r.as b), fun i _ => (r.T.length - i).toNat, ⟨0, rfl, by omega, by simp, C.hidL h1 g1⟩, ?_⟩
  clear C
  rintro i w6 L7 _ ⟨j, rfl, hj, hx, D⟩
  refine ⟨r.st.1, r.T.length, r.st.2, by rw [Addr.add_mid]; exact D.blkCell (j := 2) rfl, D.blkAt.2, ?_⟩
  by_cases hjl : j < r.T.length
  · rw [if_pos (by simpa using hjl)]
    refine ⟨r.st.1, r.T.length, r.st.2, by rw [Addr.add_mid]; exact D.blkCell (j := 2) rfl, D.blkAt.2, by omega, by simpa using hjl, ?_⟩
    obtain ⟨a, ha, hc, hnl⟩ := own_elem td_len (by decide) (D.pm [3, 0, 1, 2, 4, 5, 6, 7, 8] rfl) hjl
    rw [ha, onSome_some]
    refine ⟨_, _, _, _, _, _, _, _, _, _, _, _, _, _, _, _, _, _, _, by rw [Int.toNat_natCast]; exact hc, by rw [addr_block]; exact hnl, ?_⟩
    have hbe := td_beq r.T[j] v
    by_cases he : r.T[j].key = v.key
    · rw [if_pos (hbe.2 he)]
      have hin : v.key ∈ r.T.map fun v => v.key := List.mem_map.2 ⟨_, List.getElem_mem hjl, he⟩
      exact fun w27 h27 => Ctr.ret (m' := m) (L := []) r (by rw [ev, if_pos hin]) ⟨hM, by rw [ev, if_pos hin]⟩ (D.hid0 h27)
    · rw [if_neg (fun h => he (hbe.1 h))]
      intro w25 L26 h25 g25
      have e : IntKind.wrap .i64 ((j : Int) + 1) = ((j + 1 : Nat) : Int) := by rw [w_i64 (by omega) (by omega)]; omega
      rw [e]
      exact ⟨rfl, ⟨j + 1, rfl, hjl, take_no hjl hx he, D.hidL h25 g25⟩, Nat.le_of_eq (by show ((r.T.length : Int) - ((j + 1 : Nat) : Int)).toNat + 1 = ((r.T.length : Int) - (j : Int)).toNat; omega)⟩
  rw [if_neg (by simpa using hjl)]
  have hj2 : j = r.T.length := by omega
  rw [hj2, List.take_length] at hx
  have C := D
  simp only [Addr.add_mid]
  have fx : ∀ {w' L' m'} {As : List Asn}, Ctx F m w w' L' m' (blk b r.cells 68 :: As) → FactsW [(⟨b, 2, none⟩, [slV r.st r.T.length])] w' L' := fun C => C.blkFact1 2 _ rfl (facts_nil _ _)
  refine ⟨_, fx C, r.st.1, r.T.length, r.st.2, by simp [Addr.add_mid], fun w10 L11 h10 g10 => ?_⟩
  have E0 := (C.hidL h10 g10).alloc v.row 47
  have hcl : Cells _ ⟨w10.heap.size, 0, none⟩ v.row := E0.blkCells (o := 0) fun k u e => by simpa using e
  have E1 := E0.pm [4, 0, 1, 2, 3, 5, 6, 7, 8, 9] rfl
  obtain ⟨q2, c2, w15, hr, hk9, E2⟩ := Ctx.app2 (P := Try.prog) (bytes := 120) (t := 63) (t2 := 63) E1 63 (by kernel_rfl) (.some ⟨w10.heap.size, 0, none⟩ 1 1 v.row rfl hcl) (by unfold maxLen; omega) (by omega) (td_one _)
  have E3 := E2.pk [2, 3, 4, 0, 5, 6, 7, 8, 9] [1] rfl
  have e1 : (r.T ++ [v]).length = r.T.length + 1 := by simp
  have e2 : (r.T ++ [v]).flatMap Td.row = r.T.flatMap Td.row ++ v.row := by simp
  refine ⟨fx E0.swap, q2, r.T.length + 1, c2, w15, hr, hk9, fx E3, (by first | trivial | rfl), E3.there 2 1 (by simp), E3.blkAt.2, ?_⟩
  have E4 := E3.store 2 [slV (q2, c2) (r.T.length + 1)] (by simp)
  rw [← e2] at E4
  rw [← e1] at E4 ⊢
  exact Ctr.ret (m' := m) (L := L11) { r with st := (q2, c2), T := r.T ++ [v] } (by rw [ev, if_neg hx]) ⟨⟨hM.e, hM.b, fun u hu => by rcases List.mem_append.1 hu with hu | hu; exact hM.t u hu; simp at hu; subst hu; exact hv, hM.s⟩, by rw [ev, if_neg hx]; simp [Ra.er]; try rfl⟩ E4
theorem c_rSit (b : Nat) (r : Ra) (v : St) (hf : r.few) : Ctr Try.prog 40 #[.pointer (some ⟨b, 0, none⟩), .agg v.row.toArray] (fun m => r.M m ∧ v.v.M m) (r.as b)
    (fun _ : Ra => .bool (sitV r.er v).1) (fun g m => g.M m ∧ g.er = (sitV r.er v).2) (fun g => g.as b) := by
  refine Ctr.mk fun w F m C hp => x_rSit _ _ _ _ _ _ _ _ w _ fun w1 L2 h1 g1 => ?_
  obtain ⟨hM, hv⟩ := hp
  have hlen := hf.s
  have ev : sitV r.er v = if v.key ∈ r.S.map (fun v => v.key) then (false, r.er) else (true, { r.er with S := r.er.S ++ [v.er] }) := by rw [sitV, rer_S]
  refine ⟨fun i w' L' => ∃ j : Nat, i = j ∧ j ≤ r.S.length ∧ v.key ∉ (r.S.take j).map (fun v => v.key) ∧ Ctx F m w w' L' m (r.as b), fun i _ => (r.S.length - i).toNat, ⟨0, rfl, by omega, by simp, C.hidL h1 g1⟩, ?_⟩
  clear C
  rintro i w6 L7 _ ⟨j, rfl, hj, hx, D⟩
  refine ⟨r.ss.1, r.S.length, r.ss.2, by rw [Addr.add_mid]; exact D.blkCell (j := 3) rfl, D.blkAt.2, ?_⟩
  by_cases hjl : j < r.S.length
  · rw [if_pos (by simpa using hjl)]
    refine ⟨r.ss.1, r.S.length, r.ss.2, by rw [Addr.add_mid]; exact D.blkCell (j := 3) rfl, D.blkAt.2, by omega, by simpa using hjl, ?_⟩
    obtain ⟨a, ha, hc, hnl⟩ := own_elem st_len (by decide) (D.pm [4, 0, 1, 2, 3, 5, 6, 7, 8] rfl) hjl
    rw [ha, onSome_some]
    refine ⟨_, _, _, _, _, _, _, by rw [Int.toNat_natCast]; exact hc, by rw [addr_block]; exact hnl, ?_⟩
    have hbe := st_beq r.S[j] v
    by_cases he : r.S[j].key = v.key
    · rw [if_pos (hbe.2 he)]
      have hin : v.key ∈ r.S.map fun v => v.key := List.mem_map.2 ⟨_, List.getElem_mem hjl, he⟩
      exact fun w27 h27 => Ctr.ret (m' := m) (L := []) r (by rw [ev, if_pos hin]) ⟨hM, by rw [ev, if_pos hin]⟩ (D.hid0 h27)
    · rw [if_neg (fun h => he (hbe.1 h))]
      intro w25 L26 h25 g25
      have e : IntKind.wrap .i64 ((j : Int) + 1) = ((j + 1 : Nat) : Int) := by rw [w_i64 (by omega) (by omega)]; omega
      rw [e]
      exact ⟨rfl, ⟨j + 1, rfl, hjl, take_no hjl hx he, D.hidL h25 g25⟩, Nat.le_of_eq (by show ((r.S.length : Int) - ((j + 1 : Nat) : Int)).toNat + 1 = ((r.S.length : Int) - (j : Int)).toNat; omega)⟩
  rw [if_neg (by simpa using hjl)]
  have hj2 : j = r.S.length := by omega
  rw [hj2, List.take_length] at hx
  have C := D
  simp only [Addr.add_mid]
  have fx : ∀ {w' L' m'} {As : List Asn}, Ctx F m w w' L' m' (blk b r.cells 68 :: As) → FactsW [(⟨b, 3, none⟩, [slV r.ss r.S.length])] w' L' := fun C => C.blkFact1 3 _ rfl (facts_nil _ _)
  refine ⟨_, fx C, r.ss.1, r.S.length, r.ss.2, by simp [Addr.add_mid], fun w10 L11 h10 g10 => ?_⟩
  have E0 := (C.hidL h10 g10).alloc v.row 49
  have hcl : Cells _ ⟨w10.heap.size, 0, none⟩ v.row := E0.blkCells (o := 0) fun k u e => by simpa using e
  have E1 := E0.pm [5, 0, 1, 2, 3, 4, 6, 7, 8, 9] rfl
  obtain ⟨q2, c2, w15, hr, hk9, E2⟩ := Ctx.app2 (P := Try.prog) (bytes := 120) (t := 64) (t2 := 64) E1 64 (by kernel_rfl) (.some ⟨w10.heap.size, 0, none⟩ 1 1 v.row rfl hcl) (by unfold maxLen; omega) (by omega) (st_one _)
  have E3 := E2.pk [2, 3, 4, 5, 0, 6, 7, 8, 9] [1] rfl
  have e1 : (r.S ++ [v]).length = r.S.length + 1 := by simp
  have e2 : (r.S ++ [v]).flatMap St.row = r.S.flatMap St.row ++ v.row := by simp
  refine ⟨fx E0.swap, q2, r.S.length + 1, c2, w15, hr, hk9, fx E3, (by first | trivial | rfl), E3.there 3 1 (by simp), E3.blkAt.2, ?_⟩
  have E4 := E3.store 3 [slV (q2, c2) (r.S.length + 1)] (by simp)
  rw [← e2] at E4
  rw [← e1] at E4 ⊢
  exact Ctr.ret (m' := m) (L := L11) { r with ss := (q2, c2), S := r.S ++ [v] } (by rw [ev, if_neg hx]) ⟨⟨hM.e, hM.b, hM.t, fun u hu => by rcases List.mem_append.1 hu with hu | hu; exact hM.s u hu; simp at hu; subst hu; exact hv⟩, by rw [ev, if_neg hx]; simp [Ra.er]; try rfl⟩ E4
end Go.Proofs
namespace Go.Proofs
open Go X RowKit
section
variable {F0 : List Nat} {m0 : Mem} {w0 : World} {b : Nat}
/-- the document's annal, one order ahead; and put back, another list in its place -/
theorem raS (r : Ra) (g : Nat) (hg : g < 4) : ∃ Bs : List Asn,
    (∀ {w : World} {L : List Nat} {m : Mem}, Ctx F0 m0 w0 w L m (r.as b) → Ctx F0 m0 w0 w L m (ensR (r.p g) (r.o g) :: blk b r.cells 68 :: Bs)) ∧
    (∀ {w : World} {L : List Nat} {m : Mem} {q : Sl} {l : List En}, Ctx F0 m0 w0 w L m (ensR q l :: blk b (splice r.cells (4 + g) [slV q l.length]) 68 :: Bs) → Ctx F0 m0 w0 w L m (Ra.as { r with p := updP r.p g q, o := updO r.o g l } b)) := by
  match g, hg with
  | 0, _ => exact ⟨_, fun C => C.pm [5, 0, 1, 2, 3, 4, 6, 7, 8] rfl, fun C => C.pm [1, 2, 3, 4, 5, 0, 6, 7, 8] rfl⟩
  | 1, _ => exact ⟨_, fun C => C.pm [6, 0, 1, 2, 3, 4, 5, 7, 8] rfl, fun C => C.pm [1, 2, 3, 4, 5, 6, 0, 7, 8] rfl⟩
  | 2, _ => exact ⟨_, fun C => C.pm [7, 0, 1, 2, 3, 4, 5, 6, 8] rfl, fun C => C.pm [1, 2, 3, 4, 5, 6, 7, 0, 8] rfl⟩
  | 3, _ => exact ⟨_, fun C => C.pm [8, 0, 1, 2, 3, 4, 5, 6, 7] rfl, fun C => C.pm [1, 2, 3, 4, 5, 6, 7, 8, 0] rfl⟩
end
theorem own_fact {α : Type} {f : α → List Value} {k : Nat} (hk : ∀ a, (f a).length = k) (hk0 : k ≠ 0) {F0 : List Nat} {m0 : Mem} {w0 w : World} {L : List Nat} {m : Mem} {As : List Asn} {q : Sl} {l : List α} {ty : TypeId} (C : Ctx F0 m0 w0 w L m (slA (slV q l.length) l.length (l.flatMap f) ty k :: As)) {j : Nat} (hj : j < l.length) {a : Addr} (ha : q.1 = some a) {F : Facts} (kF : FactsW F w L) :
    FactsW ((a.add (j * k), f l[j]) :: F) w L := by
  obtain ⟨q1, q2⟩ := q
  simp only at ha
  subst ha
  cases hv : f l[j] with
  | nil => have := hk l[j]; rw [hv] at this; exact absurd this.symm hk0
  | cons v vs => exact C.slFact (j * k) v vs (fun i u hu => flat_at hk l j hj i u (by rw [hv]; exact hu)) kF
theorem ra_cell (r : Ra) (g : Nat) (hg : g < 4) : r.cells[4 + g]? = some (slV (r.p g) (r.o g).length) := by match g, hg with | 0, _ => rfl | 1, _ => rfl | 2, _ => rfl | 3, _ => rfl
theorem c_rCommit (b : Nat) (r : Ra) (g : Int) (hg : 0 ≤ g) (c : Int) (e : En) (hl : ∀ k, (r.o k).length ≤ 100000) (hs : 0 ≤ r.sp ∧ r.sp < 1000000) :
    Ctr Try.prog 38 #[.pointer (some ⟨b, 0, none⟩), .int .u8 g, .int .i64 c, .agg e.row.toArray] (fun m => r.M m ∧ EnM m e) (r.as b) (fun _ : Ra => .bool (commitV r.er g c e.er).1) (fun h m => h.M m ∧ h.er = (commitV r.er g c e.er).2) (fun h => h.as b) := by
  refine Ctr.mk fun w F m C hp => x_rCommit _ _ _ _ _ _ _ _ _ _ _ _ _ _ _ _ _ _ _ _ _ _ _ _ _ w _ ?_
  obtain ⟨hM, he⟩ := hp
  by_cases h0 : g < 4 ∧ 0 ≤ c
  rotate_left
  · rw [if_neg (by simp; omega)]
    have ev : commitV r.er g c e.er = (false, r.er) := by
      rw [commitV, if_pos]
      by_cases h : g ≥ 4
      · exact .inl h
      · exact .inr (.inl (by omega))
    exact fun w1 h1 => Ctr.ret (m' := m) (L := []) r (by rw [ev]) ⟨hM, by rw [ev]⟩ (C.hid0 h1)
  rw [if_pos (by simp; omega)]
  obtain ⟨hg4, hc0⟩ := h0
  obtain ⟨k, rfl⟩ := Int.eq_ofNat_of_zero_le hg
  have hk4 : k < 4 := by omega
  have hlen : (r.er.o k).length = (r.o k).length := by show ((r.o k).map En.er).length = _; simp
  have hget : (r.er.o k)[c.toNat]? = ((r.o k)[c.toNat]?).map En.er := by show ((r.o k).map En.er)[c.toNat]? = _; simp
  have hck := ra_cell r k hk4
  have hlk := hl k
  simp only [Int.toNat_natCast, Nat.mul_one, Addr.add_mid, Nat.zero_add]
  refine ⟨by omega, by omega, (r.p k).1, (r.o k).length, (r.p k).2, C.blkCell hck, ?_⟩
  by_cases hcl : c > (r.o k).length
  · rw [if_pos (by simpa using hcl)]
    have ev : commitV r.er k c e.er = (false, r.er) := by rw [commitV, if_pos]; simp only [Int.toNat_natCast, hlen]; exact .inr (.inr hcl)
    exact fun w1 h1 => Ctr.ret (m' := m) (L := []) r (by rw [ev]) ⟨hM, by rw [ev]⟩ (C.hid0 h1)
  rw [if_neg (by simpa using hcl)]
  refine ⟨by omega, by omega, (r.p k).1, (r.o k).length, (r.p k).2, C.blkCell hck, ?_⟩
  have ev : commitV r.er k c e.er = (if c = (r.o k).length then (true, { r.er with o := updE r.er.o k (r.er.o k ++ [e.er]) })
      else match ((r.o k)[c.toNat]?).map En.er with
        | some y => if y = e.er then (true, r.er) else (false, { r.er with sp := r.er.sp + 1 })
        | none => (false, r.er)) := by
    rw [commitV, if_neg (by simp only [Int.toNat_natCast, hlen]; omega)]
    simp only [Int.toNat_natCast, hlen, hget]
    try rfl
  obtain ⟨Bs, op, cl⟩ := raS (F0 := F) (m0 := m) (w0 := w) (b := b) r k hk4
  have fx : ∀ {w' L' m'} {As : List Asn}, Ctx F m w w' L' m' (blk b r.cells 68 :: As) → FactsW [(⟨b, 4 + k, none⟩, [slV (r.p k) (r.o k).length])] w' L' := fun C => C.blkFact1 (4 + k) _ hck (facts_nil _ _)
  by_cases hce : c = (r.o k).length
  · rw [if_pos (by simpa using hce)]
    rw [if_pos hce] at ev
    refine ⟨_, fx C, by omega, by omega, (r.p k).1, (r.o k).length, (r.p k).2, by simp, fun w45 L46 h45 g45 => ?_⟩
    have D := op (C.hidL h45 g45)
    have E0 := D.alloc e.row 52
    have hcl : Cells _ ⟨w45.heap.size, 0, none⟩ e.row := E0.blkCells (o := 0) fun k u e => by simpa using e
    have E1 := E0.swap
    obtain ⟨q2, c2, w50, hr, hkk, E2⟩ := Ctx.app2 (P := Try.prog) (bytes := 400) (t := 65) (t2 := 65) E1 65 (by kernel_rfl) (.some ⟨w45.heap.size, 0, none⟩ 1 1 e.row rfl hcl) (by unfold maxLen; omega) (by omega) (en_one _)
    have E3 := (E2.swap.drop).swap
    have e1 : (r.o k ++ [e]).length = (r.o k).length + 1 := by simp
    have e2 : (r.o k ++ [e]).flatMap En.row = (r.o k).flatMap En.row ++ e.row := by simp
    refine ⟨fx E0.third, q2, (r.o k).length + 1, c2, w50, hr, hkk, fx E3, by omega, by omega, (by first | trivial | rfl), E3.there (4 + k) 1 (by simp; omega), E3.blkAt.2, ?_⟩
    have E4 := E3.store (4 + k) [slV (q2, c2) ((r.o k).length + 1)] (by simp; omega)
    rw [← e2] at E4
    rw [← e1] at E4 ⊢
    refine Ctr.ret (m' := m) (L := L46) { r with p := updP r.p k (q2, c2), o := updO r.o k (r.o k ++ [e]) } (by rw [ev]) ⟨⟨fun g y hy => ?_, hM.b, hM.t, hM.s⟩, ?_⟩ (cl E4.swap)
    · simp only [updO] at hy
      split at hy
      · rcases List.mem_append.1 hy with hy | hy
        · exact hM.e _ _ hy
        · simp only [List.mem_singleton] at hy; subst hy; exact he
      · exact hM.e _ _ hy
    · rw [ev]
      have : (fun g => (updO r.o k (r.o k ++ [e]) g).map En.er) = updE r.er.o k (r.er.o k ++ [e.er]) := by
        funext g; unfold updO updE; split
        · show (r.o k ++ [e]).map En.er = (r.o k).map En.er ++ [e.er]; simp
        · rfl
      show Fv.mk _ _ _ _ (fun g => (updO r.o k (r.o k ++ [e]) g).map En.er) _ = _
      rw [this]; rfl
  rw [if_neg (by simpa using hce)]
  rw [if_neg hce] at ev
  have hcn : c.toNat < (r.o k).length := by omega
  obtain ⟨a, ha, hc, hnl⟩ := own_elem en_len (by decide) (op C) hcn
  have fy : ∀ {w' L' m'}, Ctx F m w w' L' m' (r.as b) → FactsW [(a.add (c.toNat * 18), (r.o k)[c.toNat].row), (⟨b, 4 + k, none⟩, [slV (r.p k) (r.o k).length])] w' L' := fun C => own_fact en_len (by decide) (op C) hcn ha (fx C)
  refine ⟨_, fy C, by omega, by omega, (r.p k).1, (r.o k).length, (r.p k).2, by simp, by omega, by omega, ?_⟩
  rw [ha, onSome_some]
  refine ⟨_, _, _, _, _, _, _, _, _, _, _, _, _, _, _, _, _, _, _, _, _, _, List.mem_cons_self, fun w35 L36 h35 g35 => ?_⟩
  have hym := hM.e k _ (List.getElem_mem hcn)
  rw [List.getElem?_eq_getElem hcn] at ev
  simp only [Option.map_some] at ev
  generalize (r.o k)[c.toNat] = y at hym ev fy ⊢
  refine (c_r5Same y e).call (As := r.as b) (C.hidL h35 g35) ⟨hym, he⟩ fun _ m2 w38 hk hm2 _ C => ⟨_, rfl, hk, fy C, ?_⟩
  by_cases hye : y.er = e.er
  · rw [if_pos (by simpa using hye)]
    rw [if_pos hye] at ev
    exact Ctr.ret (m' := m2) r (by rw [ev]) ⟨hM.mono hm2, by rw [ev]⟩ C
  · rw [if_neg (by simpa using hye)]
    rw [if_neg hye] at ev
    refine ⟨r.sp, C.blkCell (j := 8) rfl, C.blkAt.2, (by first | trivial | rfl), C.there 8 1 (by simp), C.blkAt.2, ?_⟩
    rw [w_i64 (n := r.sp + 1) (by omega) (by omega)]
    have D : Ctx F m w _ L36 m2 (Ra.as { r with sp := r.sp + 1 } b) := C.store 8 [.int .i64 (r.sp + 1)] (by simp)
    refine Ctr.ret (m' := m2) { r with sp := r.sp + 1 } (by rw [ev]) ⟨?_, by rw [ev]; rfl⟩ D
    have h := hM.mono hm2
    exact ⟨h.e, h.b, h.t, h.s⟩
end Go.Proofs
namespace Go.Proofs
open Go X RowKit
theorem call0 {F0 : List Nat} {m0 : Mem} {w0 w : World} {L : List Nat} {m : Mem} {P : Program} {f : FuncId} {args : Array Value} {pre : Mem → Prop} {Cs : List Asn} {ι : Type} {r : ι → Value} {post : ι → Mem → Prop} {Bs : ι → List Asn} {R : Ending → World → Prop}
    (s : Ctr P f args pre Cs r post Bs) (C : Ctx F0 m0 w0 w L m Cs) (hp : pre m)
    (k : ∀ i m' w', Kept L w w' → m.le m' → post i m' → Ctx F0 m0 w0 w' L m' (Bs i) → R (.returned (r i)) w') : CallX P f args w R :=
  s.call (As := []) (C.perm (by rw [List.append_nil])) hp fun i m' w' a b c D => k i m' w' a b c (D.perm (by rw [List.append_nil]))
def doV (s : Fv) (a : Ac) : Bool × Fv :=
  if a.kd == 0 then beginV s a.b else if a.kd == 1 then endV s a.e else if a.kd == 2 then commitV s a.g a.at_ a.l.er else if a.kd == 3 then tellV s a.t else if a.kd == 4 then sitV s a.s else (false, s)
/-- few of all, whoever it is -/
structure Fv.few (z : Fv) : Prop where
  b : z.B.length ≤ 100000
  e : z.E.length ≤ 100000
  t : z.T.length ≤ 100000
  s : z.S.length ≤ 100000
  o : ∀ k, (z.o k).length ≤ 100000
  sp : 0 ≤ z.sp ∧ z.sp < 1000000
theorem Fv.few.fa {f : Fa} (h : f.er.few) : f.few ∧ (∀ k, (f.o k).length ≤ 100000) := by
  have b := h.b; have e := h.e; have t := h.t; have s := h.s; have o := h.o
  simp only [Fa.er, List.length_map] at b e t s o
  exact ⟨⟨b, e, t, s⟩, o⟩
theorem Fv.few.ra {f : Ra} (h : f.er.few) : f.few ∧ (∀ k, (f.o k).length ≤ 100000) := by
  have b := h.b; have e := h.e; have t := h.t; have s := h.s; have o := h.o
  simp only [Ra.er, List.length_map] at b e t s o
  exact ⟨⟨b, e, t, s⟩, o⟩
structure Ac.okA (a : Ac) : Prop where
  lt : a.lt
  b : a.b.ps.length * 48 ≤ 140737488355328
  at_ : -9223372036854775808 ≤ a.at_ ∧ a.at_ < 9223372036854775808
  g : 0 ≤ a.g
theorem c_DoA (b : Nat) (f : Fa) (a : Ac) (ha : a.okA) (hf : f.er.few) : Ctr Try.prog 10 #[.pointer (some ⟨b, 0, none⟩), .agg a.row.toArray] (fun m => f.M m ∧ AcM m a) (f.as b)
    (fun _ : Fa => .bool (doV f.er a).1) (fun h m => h.M m ∧ h.er = (doV f.er a).2) (fun h => h.as b) := by
  refine Ctr.mk fun w F m C hp => x_Do _ _ _ _ _ _ _ _ _ _ _ _ _ _ _ _ _ _ _ _ _ _ _ _ _ _ _ _ _ _ _ _ _ _ _ _ _ _ _ _ _ _ _ _ _ _ _ _ _ _ _ _ _ _ _ _ _ _ _ _ _ _ _ _ _ _ _ _ _ _ _ _ _ _ _ _ _ _ _ _ _ _ _ _ _ w _ ?_
  obtain ⟨hM, hm⟩ := hp
  obtain ⟨hfw, hfo⟩ := hf.fa
  have ht := ha.lt.t
  have hs := ha.lt.s
  split
  · rename_i h0
    have ev : doV f.er a = beginV f.er a.b := by rw [doV, if_pos h0]
    refine fun w96 L97 h g => ?_
    refine (c_lBegun a.b ha.b).call (As := f.as b) (C.hidL h g) hm.b fun p m1 w99 hk hm1 hp C => ⟨_, _, _, _, _, _, _, _, _, _, _, _, _, _, _, _, rfl, hk, ?_⟩
    exact call0 (c_Begin b f (a.b.at' p) ha.b hfw) C ⟨hM.mono hm1, hp⟩ fun h m2 w117 hk hm2 hh C => ⟨_, rfl, hk, Ctr.ret (m' := m2) h (by rw [ev]; rfl) ⟨hh.1, by rw [ev]; exact hh.2⟩ C⟩
  rename_i h0
  split
  · rename_i h1
    have ev : doV f.er a = endV f.er a.e := by rw [doV, if_neg h0, if_pos h1]
    refine fun w96 L97 h g => ?_
    refine (c_lEnd a.e).call (As := f.as b) (C.hidL h g) trivial fun p m1 w99 hk hm1 hp C => ⟨_, _, _, _, _, _, _, _, _, _, _, _, _, _, _, _, _, rfl, hk, ?_⟩
    exact call0 (c_End b f a.e hfw) C (hM.mono hm1) fun h m2 w117 hk hm2 hh C => ⟨_, rfl, hk, Ctr.ret (m' := m2) h (by rw [ev]) ⟨hh.1, by rw [ev]; exact hh.2⟩ C⟩
  rename_i h1
  split
  · rename_i h2
    have ev : doV f.er a = commitV f.er a.g a.at_ a.l.er := by rw [doV, if_neg h0, if_neg h1, if_pos h2]
    refine ⟨[], facts_nil _ _, fun w43 L44 h43 g43 => ?_⟩
    have he : EnM m a.l := ⟨hm.l.p, hm.l.w, by have := ha.lt.p; omega, by have := ha.lt.w; omega⟩
    refine (c_OwnE a.l).call (As := f.as b) (C.hidL h43 g43) he fun y m1 w46 hk hm1 hy C => ⟨_, _, _, _, _, _, _, _, _, _, _, _, _, _, _, _, _, _, _, _, _, _, rfl, hk, facts_nil _ _, ?_⟩
    rw [← hy.2] at ev
    exact call0 (c_CommitA b f a.g ha.g a.at_ ha.at_ y hfo hf.sp) C ⟨hM.mono hm1, hy.1⟩ fun h m2 w117 hk hm2 hh C => ⟨_, rfl, hk, facts_nil _ _, Ctr.ret (m' := m2) h (by rw [ev]) ⟨hh.1, by rw [ev]; exact hh.2⟩ C⟩
  rename_i h2
  split
  · rename_i h3
    have ev : doV f.er a = tellV f.er a.t := by rw [doV, if_neg h0, if_neg h1, if_neg h2, if_pos h3]
    refine fun w96 L97 h g => ?_
    refine (c_lTold a.t (by omega)).call (As := f.as b) (C.hidL h g) hm.t fun p m1 w99 hk hm1 hp C => ⟨_, _, _, _, _, _, _, _, _, _, _, _, _, _, _, _, _, _, _, rfl, hk, ?_⟩
    exact call0 (c_Tell b f (a.t.at_ p) (show a.t.v.ps.length * 48 ≤ _ by omega) hfw) C ⟨hM.mono hm1, hp⟩ fun h m2 w117 hk hm2 hh C => ⟨_, rfl, hk, Ctr.ret (m' := m2) h (by rw [ev]; rfl) ⟨hh.1, by rw [ev]; exact hh.2⟩ C⟩
  rename_i h3
  split
  · rename_i h4
    have ev : doV f.er a = sitV f.er a.s := by rw [doV, if_neg h0, if_neg h1, if_neg h2, if_neg h3, if_pos h4]
    refine fun w96 L97 h g => ?_
    refine (c_lSat a.s (by omega)).call (As := f.as b) (C.hidL h g) hm.s fun p m1 w99 hk hm1 hp C => ⟨_, _, _, _, _, _, _, rfl, hk, ?_⟩
    exact call0 (c_Sit b f (a.s.at_ p) (show a.s.v.ps.length * 48 ≤ _ by omega) hfw) C ⟨hM.mono hm1, hp⟩ fun h m2 w117 hk hm2 hh C => ⟨_, rfl, hk, Ctr.ret (m' := m2) h (by rw [ev]; rfl) ⟨hh.1, by rw [ev]; exact hh.2⟩ C⟩
  · rename_i h4
    have ev : doV f.er a = (false, f.er) := by rw [doV, if_neg h0, if_neg h1, if_neg h2, if_neg h3, if_neg h4]
    refine fun w1 h1 => Ctr.ret (m' := m) (L := []) f (by rw [ev]) ⟨hM, by rw [ev]⟩ (C.hid0 h1)
theorem c_Play (b : Nat) (f : Ra) (a : Ac) (ha : a.okA) (hf : f.er.few) : Ctr Try.prog 13 #[.pointer (some ⟨b, 0, none⟩), .agg a.row.toArray] (fun m => f.M m ∧ AcM m a) (f.as b)
    (fun _ : Ra => .bool (doV f.er a).1) (fun h m => h.M m ∧ h.er = (doV f.er a).2) (fun h => h.as b) := by
  refine Ctr.mk fun w F m C hp => x_Play _ _ _ _ _ _ _ _ _ _ _ _ _ _ _ _ _ _ _ _ _ _ _ _ _ _ _ _ _ _ _ _ _ _ _ _ _ _ _ _ _ _ _ _ _ _ _ _ _ _ _ _ _ _ _ _ _ _ _ _ _ _ _ _ _ _ _ _ _ _ _ _ _ _ _ _ _ _ _ _ _ _ _ _ _ w _ ?_
  obtain ⟨hM, hm⟩ := hp
  obtain ⟨hfw, hfo⟩ := hf.ra
  split
  · rename_i h0
    have ev : doV f.er a = beginV f.er a.b := by rw [doV, if_pos h0]
    exact fun w96 L97 h g => call0 (c_rBegin b f a.b hfw) (C.hidL h g) ⟨hM, hm.b⟩ fun h m2 w117 hk hm2 hh C => ⟨_, rfl, hk, Ctr.ret (m' := m2) h (by rw [ev]) ⟨hh.1, by rw [ev]; exact hh.2⟩ C⟩
  rename_i h0
  split
  · rename_i h1
    have ev : doV f.er a = endV f.er a.e := by rw [doV, if_neg h0, if_pos h1]
    exact fun w96 L97 h g => call0 (c_rEnd b f a.e hfw) (C.hidL h g) hM fun h m2 w117 hk hm2 hh C => ⟨_, rfl, hk, Ctr.ret (m' := m2) h (by rw [ev]) ⟨hh.1, by rw [ev]; exact hh.2⟩ C⟩
  rename_i h1
  split
  · rename_i h2
    have ev : doV f.er a = commitV f.er a.g a.at_ a.l.er := by rw [doV, if_neg h0, if_neg h1, if_pos h2]
    have he : EnM m a.l := ⟨hm.l.p, hm.l.w, by have := ha.lt.p; omega, by have := ha.lt.w; omega⟩
    exact fun w96 L97 h g => call0 (c_rCommit b f a.g ha.g a.at_ a.l hfo hf.sp) (C.hidL h g) ⟨hM, he⟩ fun h m2 w117 hk hm2 hh C => ⟨_, rfl, hk, Ctr.ret (m' := m2) h (by rw [ev]) ⟨hh.1, by rw [ev]; exact hh.2⟩ C⟩
  rename_i h2
  split
  · rename_i h3
    have ev : doV f.er a = tellV f.er a.t := by rw [doV, if_neg h0, if_neg h1, if_neg h2, if_pos h3]
    exact fun w96 L97 h g => call0 (c_rTell b f a.t hfw) (C.hidL h g) ⟨hM, hm.t⟩ fun h m2 w117 hk hm2 hh C => ⟨_, rfl, hk, Ctr.ret (m' := m2) h (by rw [ev]) ⟨hh.1, by rw [ev]; exact hh.2⟩ C⟩
  rename_i h3
  split
  · rename_i h4
    have ev : doV f.er a = sitV f.er a.s := by rw [doV, if_neg h0, if_neg h1, if_neg h2, if_neg h3, if_pos h4]
    exact fun w96 L97 h g => call0 (c_rSit b f a.s hfw) (C.hidL h g) ⟨hM, hm.s⟩ fun h m2 w117 hk hm2 hh C => ⟨_, rfl, hk, Ctr.ret (m' := m2) h (by rw [ev]) ⟨hh.1, by rw [ev]; exact hh.2⟩ C⟩
  · rename_i h4
    have ev : doV f.er a = (false, f.er) := by rw [doV, if_neg h0, if_neg h1, if_neg h2, if_neg h3, if_neg h4]
    refine fun w1 h1 => Ctr.ret (m' := m) (L := []) f (by rw [ev]) ⟨hM, by rw [ev]⟩ (C.hid0 h1)
end Go.Proofs
