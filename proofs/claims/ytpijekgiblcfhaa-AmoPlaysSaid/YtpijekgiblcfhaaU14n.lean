import Derived.Test.YtpijekgiblcfhaaU14d
import Derived.Test.YtpijekgiblcfhaaU14g
import Derived.Test.YtpijekgiblcfhaaV14m1
import Derived.Test.YtpijekgiblcfhaaXSub
import Derived.Test.YtpijekgiblcfhaaU14c
import Derived.Shelf.SlMaps.Clone
import Derived.Test.YtpijekgiblcfhaaXMap
set_option linter.unusedVariables false
set_option linter.unusedSimpArgs false
set_option maxRecDepth 10000
namespace Go.Proofs
open Go X RowKit
abbrev idsA (q : Option Addr) (n c : Nat) (B : List I) : Asn := slA (.slice q n c) n (B.flatMap I.row) 37 10
theorem i_one (x : I) : ∀ u ∈ x.row, oneC u = true := by intro u h; simp [I.row] at h; rcases h with rfl | rfl | rfl | rfl | rfl | rfl | rfl | rfl | rfl | rfl <;> rfl
theorem i_eq (a d : I) : (((a.n == d.n) && (a.l == d.l)) && ((a.s == d.s) && ((a.d == d.d) && (((a.g0 == d.g0) && (a.i0 == d.i0)) && (((a.g1 == d.g1) && (a.i1 == d.i1)) && ((a.g2 == d.g2) && (a.i2 == d.i2))))))) = true ↔ a = d := by
  simp only [Bool.and_eq_true, beq_iff_eq]
  constructor
  · rintro ⟨⟨h1, h2⟩, h3, h4, ⟨h5, h6⟩, ⟨h7, h8⟩, h9, h10⟩
    exact I.ext' ⟨h1, h2, h3, h4, h5, h6, h7, h8, h9, h10⟩
  · rintro rfl; simp
theorem ac_d {a : Ac} {j : Nat} {v : Value} (h : a.d.row[j]? = some v) : a.row[1 + j]? = some v := by
  match j, h with
  | 0, h | 1, h | 2, h | 3, h | 4, h | 5, h | 6, h | 7, h | 8, h | 9, h => exact h
  | j + 10, h => simp [I.row] at h
theorem l_AmoOnce (w : World) (a : Int) (q : Option Addr) (c : Nat) (l : List Ac) (hl : ∀ x ∈ l, x.d.In) (hs : MSrc (memOf w) 14 (.slice q l.length c) l.length (l.flatMap Ac.row)) :
    Calls Try.prog 3 #[.int .i64 a, .slice q l.length c] w (LawR w) := by
  refine x_gemotlaw14_AmoOnce _ _ _ _ w _ ?_
  have C := lawStart w
  refine (c_light l q c).call C hs fun v m1 w2 hk hm1 _ C => ⟨_, rfl, hk.size, ?_⟩
  obtain ⟨v, hv⟩ := v
  cases v with
  | false =>
    rw [if_neg (by simp)]
    refine c_knows.call (As := []) C trivial fun _ m2 w5 hk hm _ C => ⟨true, rfl, hk.size, rfl, C.at_⟩
  | true =>
  rw [if_pos (by simp)]
  have h100 := hv rfl
  refine c_knows.call (As := []) C trivial fun _ m2 w8 hk hm2 _ C => ⟨true, rfl, hk.size, ?_⟩
  rw [if_neg (by simp)]
  refine (c_New a).call (As := []) C trivial fun b m3 w11 hk hm3 _ C => ⟨_, rfl, hk.size, ?_⟩
  replace hs := ((hs.mono hm1).mono hm2).mono hm3
  clear hm1 hm2 hm3 hk hv
  let I0 : Nat → Tb → List I → World → Option Addr → Nat → Nat → Mem → Prop := fun i t B w' q k c m => k = B.length ∧ B.length ≤ i ∧ m3.le m ∧ Once t B ∧ Ctx [] (memOf w) w w' [] m [tbA b t, idsA q B.length c B]
  refine ⟨fun q k c n w' L' => ∃ (i : Nat) (t : Tb) (B : List I) (m : Mem), n = i ∧ i ≤ l.length ∧ I0 i t B w' q k c m, fun _ _ _ n _ => (l.length - n).toNat,
    ⟨0, tb0 a, [], m3, rfl, by omega, rfl, Nat.le_refl _, Mem.le_refl _, (fun d hd => by cases hd), (Ctx.slNil C).swap⟩, ?_⟩
  clear C
  rintro qb k cb n w19 L20 _ ⟨i, t, B, m, rfl, hi, rfl, hBi, hmm, hO, D⟩
  by_cases hlt : i < l.length
  rotate_left
  · rw [if_neg (by simpa using hlt)]
    exact ⟨rfl, D.at_⟩
  rw [if_pos (by simpa using hlt)]
  have e : IntKind.wrap .i64 ((i : Int) + 1) = ((i + 1 : Nat) : Int) := by rw [w_i64 (by omega) (by omega)]; omega
  have hmeas : Nat.le (((l.length : Int) - ((i + 1 : Nat) : Int)).toNat + 1) ((l.length : Int) - (i : Int)).toNat := Nat.le_of_eq (by omega)
  refine ⟨by omega, by simpa using hlt, ?_⟩
  obtain ⟨pa, rfl, hcell⟩ := (hs.mono hmm).elem ac_len hlt
  rw [onSome_some]
  have hd := hl _ (List.getElem_mem hlt)
  refine ⟨l[i].kd, l[i].d.n, l[i].d.l, l[i].d.s, l[i].d.d, l[i].d.g0, l[i].d.i0, l[i].d.g1, l[i].d.i1, l[i].d.g2, l[i].d.i2, l[i].c, l[i].v, l[i].nn, D.cells hcell, ?_⟩
  obtain ⟨hO1, hO2⟩ := hO.act l[i]
  refine (c_do b t l[i].kd l[i].d hd l[i].c l[i].v l[i].nn).call (As := [idsA qb B.length cb B]) D trivial fun _ m4 w37 hk hm4 _ D => ⟨_, rfl, hk.size, ?_⟩
  have hmm4 := hmm.le_trans hm4
  change Once (doF t ⟨l[i].kd, l[i].d, l[i].c, l[i].v, l[i].nn⟩).2 B at hO1
  change (doF t ⟨l[i].kd, l[i].d, l[i].c, l[i].v, l[i].nn⟩).1 = true → l[i].d ∉ B ∧ Once (doF t ⟨l[i].kd, l[i].d, l[i].c, l[i].v, l[i].nn⟩).2 (B ++ [l[i].d]) at hO2
  generalize doF t ⟨l[i].kd, l[i].d, l[i].c, l[i].v, l[i].nn⟩ = r at D hO1 hO2 ⊢
  obtain ⟨ok, t'⟩ := r
  cases ok with
  | false =>
    rw [if_pos (by simp), e]
    exact ⟨⟨i + 1, t', B, m4, rfl, hlt, rfl, by omega, hmm4, hO1, Ctx.noL D⟩, hmeas⟩
  | true =>
  rw [if_neg (by simp)]
  obtain ⟨hnB, hO3⟩ := hO2 rfl
  clear hO1 hO2
  have hcell4 := hcell.mono hm4
  have hidc : MCells m4 ((pa.add (i * 14)).add 1) l[i].d.row := fun j v hv => by
    have h2 := hcell4 (1 + j) v (ac_d hv)
    rw [Addr.add_add]; exact h2
  refine ⟨fun n w' _ => ∃ j : Nat, n = j ∧ j ≤ B.length ∧ Ctx [] (memOf w) w w' [] m4 [idsA qb B.length cb B, tbA b t'], fun n _ => (B.length - n).toNat, ⟨0, rfl, by omega, Ctx.noL D.swap⟩, ?_⟩
  clear D hk
  rintro n w42 L43 _ ⟨j, rfl, hj, D⟩
  by_cases hjl : j < B.length
  · rw [if_pos (by simpa using hjl)]
    refine ⟨by omega, by simpa using hjl, ?_⟩
    have hc := D.slCells
    cases qb with
    | none => exact absurd (hc.2 rfl) (by cases B with | nil => simp at hjl | cons => simp)
    | some pb =>
    rw [onSome_some]
    have hcl := cells_elem i_len (hc.1 pb rfl).1 j hjl
    refine ⟨_, _, _, _, _, _, _, _, _, _, hcl, by omega, by simpa using hlt, ?_⟩
    rw [onSome_some]
    refine ⟨_, _, _, _, _, _, _, _, _, _, D.cells hidc, ?_⟩
    rw [if_neg (by rw [i_eq]; exact fun he => hnB (he ▸ List.getElem_mem hjl))]
    intro w81 h81
    have e2 : IntKind.wrap .i64 ((j : Int) + 1) = ((j + 1 : Nat) : Int) := by rw [w_i64 (by omega) (by omega)]; omega
    rw [e2]
    exact ⟨⟨j + 1, rfl, hjl, D.hid0 h81⟩, Nat.le_of_eq (by show ((B.length : Int) - ((j + 1 : Nat) : Int)).toNat + 1 = ((B.length : Int) - (j : Int)).toNat; omega)⟩
  · rw [if_neg (by simpa using hjl)]
    refine ⟨by omega, by simpa using hlt, ?_⟩
    rw [onSome_some]
    refine ⟨_, _, _, _, _, _, _, _, _, _, D.cells hidc, ?_⟩
    have D1 := (D.alloc l[i].d.row 37).swap
    have hcl : Cells (w42.alloc (.cells l[i].d.row.toArray 37)) ⟨w42.heap.size, 0, none⟩ l[i].d.row := (D.alloc l[i].d.row 37).blkCells (o := 0) fun j v e => by simpa using e
    obtain ⟨q2, c2, w58, hr, hkk, D2⟩ := D1.app (P := Try.prog) (bytes := 200) (t := 27) (t2 := 27) 27 (by kernel_rfl) (.some ⟨w42.heap.size, 0, none⟩ 1 1 l[i].d.row rfl hcl) (by omega) (i_one _)
    refine ⟨q2, B.length + 1, c2, w58, hr, hkk.size, ?_, ?_⟩
    · rw [e]
      refine ⟨i + 1, t', B ++ [l[i].d], m4, rfl, hlt, by simp, by simp; omega, hmm4, hO3, ?_⟩
      have D3 := D2.pk [2, 0] [1] rfl
      simp only [sel, nth] at D3
      have e3 : (B ++ [l[i].d]).length = B.length + 1 := by simp
      have e4 : (B ++ [l[i].d]).flatMap I.row = B.flatMap I.row ++ l[i].d.row := by simp
      unfold idsA
      rw [e3, e4]
      exact D3
    · rw [e]; exact hmeas
end Go.Proofs
namespace Go.Proofs
open Go X RowKit
/-! ### the document's table -/
@[reducible] def Rw.row (r : Rw) : List Value := [.int .u8 r.id.n, .int .u16 r.id.l, .int .u32 r.id.s, .int .u8 r.id.d, .int .u8 r.id.g0, .int .u8 r.id.i0, .int .u8 r.id.g1, .int .u8 r.id.i1, .int .u8 r.id.g2, .int .u8 r.id.i2, .bool r.ended, .int .u8 r.code, .string r.val]
theorem rw_len (r : Rw) : r.row.length = 13 := rfl
abbrev Fr := (Int × Int) × Int
@[reducible] def frow (f : Fr) : List Value := [.int .u8 f.1.1, .int .u16 f.1.2, .int .u32 f.2]
theorem fr_len (f : Fr) : (frow f).length = 3 := rfl
structure Rt where (win : Int) (L : List Rw) (F : List Fr)
abbrev Sl := Option Addr × Nat
abbrev slV (p : Sl) (n : Nat) : Value := .slice p.1 n p.2
abbrev rwsA (p : Sl) (L : List Rw) : Asn := slA (slV p L.length) L.length (L.flatMap Rw.row) 94 13
abbrev frsA (p : Sl) (F : List Fr) : Asn := slA (slV p F.length) F.length (F.flatMap frow) 96 3
@[reducible] def Rt.cells (r : Rt) (p q : Sl) : List Value := [.int .i64 r.win, slV p r.L.length, slV q r.F.length]
abbrev rtAs (b : Nat) (r : Rt) (p q : Sl) : List Asn := [blk b (r.cells p q) 82, rwsA p r.L, frsA q r.F]
def rtA (b : Nat) (r : Rt) : Asn := Asn.ex fun y : Sl × Sl => Asn.all (rtAs b r y.1 y.2)
section
variable {F0 : List Nat} {m0 : Mem} {w0 w : World} {L : List Nat} {m : Mem} {As : List Asn}
theorem rtO {b : Nat} {r : Rt} (C : Ctx F0 m0 w0 w L m (rtA b r :: As)) : ∃ p q, Ctx F0 m0 w0 w L m (rtAs b r p q ++ As) := by
  obtain ⟨⟨p, q⟩, C⟩ := C.ex
  exact ⟨p, q, C.all⟩
theorem rtI {b : Nat} {r : Rt} (p q : Sl) (C : Ctx F0 m0 w0 w L m (rtAs b r p q ++ As)) : Ctx F0 m0 w0 w L m (rtA b r :: As) := Ctx.exI (p, q) (Ctx.allI C)
/-- an element of an owned slice -/
theorem sl_elem {α : Type} {f : α → List Value} {k : Nat} (hk : ∀ a, (f a).length = k) (k0 : 0 < k) {l : List α} {p : Sl} {ty : TypeId} (C : Ctx F0 m0 w0 w L m (slA (slV p l.length) l.length (l.flatMap f) ty k :: As)) {j : Nat} (hj : j < l.length) :
    ∃ a, p.1 = some a ∧ Cells w (a.add (j * k)) (f l[j]) ∧ (a.add (j * k)).block ∉ L := by
  have hc := C.slCells
  have hne : l.flatMap f ≠ [] := fun e => by
    have := flat_len hk l
    rw [e] at this
    have h1 : 0 < l.length * k := Nat.mul_pos (by omega) k0
    simp at this; omega
  cases hp : p.1 with
  | none => exact absurd (hc.2 hp) hne
  | some a =>
    obtain ⟨h1, h2⟩ := hc.1 a hp
    exact ⟨a, rfl, cells_elem hk h1 j hj, by rw [addr_block]; exact h2 hne⟩
end
def fK : List Rw → I → Nat
  | [], _ => 0
  | x :: l, d => if x.id.num < d.num then fK l d + 1 else 0
theorem fK_le : ∀ (l : List Rw) (d : I), fK l d ≤ l.length
  | [], d => Nat.le_refl _
  | x :: l, d => by unfold fK; split <;> simp; exact fK_le l d
theorem fK_eq {d : I} : ∀ (l : List Rw) (j : Nat), j ≤ l.length → (∀ i (hi : i < l.length), i < j → l[i].id.num < d.num) → (∀ h : j < l.length, ¬ l[j].id.num < d.num) → fK l d = j
  | [], j, hj, _, _ => by simp at hj; subst hj; rfl
  | x :: l, 0, hj, h1, h2 => by
    have := h2 (by simp)
    unfold fK; rw [if_neg (by simpa using this)]
  | x :: l, j + 1, hj, h1, h2 => by
    unfold fK
    have h0 := h1 0 (by simp) (by omega)
    rw [if_pos (by simpa using h0), fK_eq l j (by simpa using hj) (fun i hi hij => by have := h1 (i + 1) (by simpa using hi) (by omega); simpa using this) (fun h => by have := h2 (by simpa using h); simpa using this)]
def rfnd (l : List Rw) (d : I) : Option Rw := match l[fK l d]? with
  | some r => if r.id = d then some r else none
  | none => none
def stateR (r : Rt) (d : I) : Int := match rfnd r.L d with
  | some x => if x.ended then 2 else 1
  | none => if oldF r.F d then 3 else if (d.d == 0) && decide (d.s - floorF r.F (d.n, d.l) > r.win) then 4 else 0
structure Rt.Ok (r : Rt) : Prop where
  id : ∀ x ∈ r.L, x.id.In
  ll : r.L.length ≤ 100000
  fl : r.F.length ≤ 100000
  f : ∀ x ∈ r.F, 0 ≤ x.2 ∧ x.2 < 4294967296
theorem floor_in {F : List Fr} (h : ∀ x ∈ F, 0 ≤ x.2 ∧ x.2 < 4294967296) (p : Int × Int) : 0 ≤ floorF F p ∧ floorF F p < 4294967296 := by
  rw [floorF]
  cases hf : fnd p F with
  | none => simp
  | some v => exact h _ (fnd_mem hf)
theorem c_rNew (a : Int) : Ctr Try.prog 14 #[.int .i64 a] noMem [] (fun b : Nat => .pointer (some ⟨b, 0, none⟩)) (fun _ _ => True) (fun b => [rtA b ⟨if (16 : Int) < (if (1 : Int) > a then 1 else a) then 16 else (if (1 : Int) > a then 1 else a), [], []⟩]) := by
  refine Ctr.mk fun w F m C _ => x_rNew _ w _ ?_
  have C1 := (C.alloc [.int .i64 (if (16 : Int) < (if (1 : Int) > a then 1 else a) then 16 else (if (1 : Int) > a then 1 else a)), .slice none 0 0, .slice none 0 0] 82)
  have C2 := (Ctx.slNil (q := none) (ty := 94) (sz := 13) (Ctx.slNil (q := none) (ty := 96) (sz := 3) C1)).pm [2, 0, 1] rfl
  exact Ctr.ret _ rfl trivial (rtI (none, 0) (none, 0) C2)
theorem find_and (x d : I) : (true && (((x.n == d.n) && (x.l == d.l)) && ((x.s == d.s) && ((x.d == d.d) && (((x.g0 == d.g0) && (x.i0 == d.i0)) && (((x.g1 == d.g1) && (x.i1 == d.i1)) && ((x.g2 == d.g2) && (x.i2 == d.i2)))))))) = decide (x = d) := by
  rw [Bool.true_and, Bool.eq_iff_iff, i_eq, decide_eq_true_eq]
theorem rw_id {x : Rw} {k : Nat} {v : Value} (h : x.id.row[k]? = some v) : x.row[k]? = some v := by
  match k, h with
  | 0, h | 1, h | 2, h | 3, h | 4, h | 5, h | 6, h | 7, h | 8, h | 9, h => exact h
  | k + 10, h => simp [I.row] at h
theorem c_rfind (b : Nat) (r : Rt) (d : I) (hd : d.In) (hr : r.Ok) : Ctr Try.prog 49 #[.pointer (some ⟨b, 0, none⟩), d.V] noMem [rtA b r] (fun _ : Unit => .tuple #[.int .i64 (fK r.L d), .bool (rfnd r.L d).isSome]) (fun _ _ => True) (fun _ => [rtA b r]) := by
  refine Ctr.mk fun w F m C _ => x_rfind _ _ _ _ _ _ _ _ _ _ _ w _ fun w1 L2 h1 g1 => ?_
  obtain ⟨p, q, C⟩ := rtO C
  replace C := C.hidL h1 g1
  have hll := hr.ll
  refine ⟨fun n w' L' => ∃ (j : Nat), n = j ∧ j ≤ r.L.length ∧ (∀ i (hi : i < r.L.length), i < j → r.L[i].id.num < d.num) ∧ Ctx F m w w' L' m (rtAs b r p q), fun n _ => (r.L.length - n).toNat, ⟨0, rfl, by omega, fun i hi h => by omega, C⟩, ?_⟩
  clear C h1 g1
  rintro n w6 L7 _ ⟨j, rfl, hj, hlt, D⟩
  have hcell : ∀ {w' L'}, Ctx F m w w' L' m (rtAs b r p q) → w'.cell? ((⟨b, 0, none⟩ : Addr).add 1) = some (slV p r.L.length) ∧ (⟨b, 0, none⟩ : Addr).block ∉ L' := fun D => ⟨by rw [Addr.add_mid]; exact D.blkCell (j := 1) rfl, D.blkAt.2⟩
  by_cases hjl : j < r.L.length
  rotate_left
  · have hk : fK r.L d = j := fK_eq _ _ hj hlt (fun h => absurd h hjl)
    have hf : rfnd r.L d = none := by rw [rfnd, hk, List.getElem?_eq_none (by omega)]
    refine ⟨[(⟨b, 1, none⟩, [slV p r.L.length])], D.blkFact1 1 _ rfl (facts_nil _ _), _, _, _, by simp [Addr.add_mid]; exact ⟨rfl, rfl, rfl⟩, ?_⟩
    rw [if_neg (by simpa using hjl)]
    refine ⟨_, _, _, (hcell D).1, (hcell D).2, ?_⟩
    rw [if_neg (by simpa using hjl)]
    intro w15 h15
    exact Ctr.ret () (by rw [hk, hf]; rfl) trivial (rtI p q (D.hid0 h15))
  obtain ⟨pa, hpa, hc, hcb⟩ := sl_elem rw_len (by decide) (D.pm [1, 0, 2] rfl) hjl
  have h10 : ∀ k v, r.L[j].id.row[k]? = some v → r.L[j].row[k]? = some v := fun k v h => rw_id h
  have h10' : ∀ k v, r.L[j].id.row[k]? = some v → (r.L.flatMap Rw.row)[j * 13 + k]? = some v := fun k v h => flat_at rw_len _ _ hjl _ _ (h10 k v h)
  obtain ⟨p1, p2⟩ := p
  simp only at hpa
  subst hpa
  have hfacts : ∀ {w' L'}, Ctx F m w w' L' m (rtAs b r (some pa, p2) q) → FactsW [(pa.add (j * 13), r.L[j].id.row), (⟨b, 1, none⟩, [.slice (some pa) r.L.length p2])] w' L' := fun D =>
    (D.pm [1, 0, 2] rfl).slFact (j * 13) _ _ h10' (D.blkFact1 1 _ rfl (facts_nil _ _))
  refine ⟨_, hfacts D, some pa, r.L.length, p2, by simp [Addr.add_mid], ?_⟩
  rw [if_pos (by simpa using hjl)]
  refine ⟨some pa, r.L.length, p2, by simp [Addr.add_mid], by omega, by simpa using hjl, ?_⟩
  rw [onSome_some]
  refine ⟨_, _, _, _, _, _, _, _, _, _, by rw [Int.toNat_natCast, Addr.add_zero']; exact List.mem_cons_self, fun w45 L46 h45 g45 => ?_⟩
  replace D := D.hidL h45 g45
  have hin := hr.id _ (List.getElem_mem hjl)
  refine D.gives (c_ref_Compare _ d hin hd) fun w48 k48 D => ⟨_, rfl, k48, hfacts D, ?_⟩
  rw [cmp_num _ _ hin hd]
  by_cases hn : r.L[j].id.num < d.num
  · rw [if_pos (by rw [cmp2_lt hn]; rfl)]
    have e : IntKind.wrap .i64 ((j : Int) + 1) = ((j + 1 : Nat) : Int) := by rw [w_i64 (by omega) (by omega)]; omega
    rw [e]
    refine ⟨rfl, ⟨j + 1, rfl, hjl, fun i hi hij => ?_, D⟩, Nat.le_of_eq (by show ((r.L.length : Int) - ((j + 1 : Nat) : Int)).toNat + 1 = ((r.L.length : Int) - (j : Int)).toNat; omega)⟩
    by_cases hi2 : i = j
    · subst hi2; exact hn
    · exact hlt i hi (by omega)
  · have hnn : ¬ (true && decide (cmp2 r.L[j].id.num d.num < 0)) = true := by
      have : ¬ cmp2 r.L[j].id.num d.num < 0 := by unfold cmp2; rw [if_neg hn]; split <;> omega
      simpa using this
    rw [if_neg hnn]
    have hk : fK r.L d = j := fK_eq _ _ hj hlt (fun h => hn)
    refine ⟨_, _, _, (hcell D).1, (hcell D).2, ?_⟩
    rw [if_pos (by simpa using hjl)]
    refine ⟨_, _, _, (hcell D).1, (hcell D).2, by omega, by simpa using hjl, ?_⟩
    rw [onSome_some]
    have hc2 := (sl_elem rw_len (by decide) (D.pm [1, 0, 2] rfl) hjl)
    obtain ⟨pa', hpa', hc2, hcb2⟩ := hc2
    obtain rfl : pa = pa' := by simpa using hpa'
    refine ⟨_, _, _, _, _, _, _, _, _, _, by rw [Int.toNat_natCast]; exact cells_part hc2 0 r.L[j].id.row (fun k v h => by rw [Nat.zero_add]; exact h10 k v h), by rw [Int.toNat_natCast, Addr.add_zero']; exact hcb2, fun w68 h68 => ?_⟩
    refine Ctr.ret () ?_ trivial (rtI _ q (D.hid0 h68))
    rw [find_and, hk, rfnd, hk, List.getElem?_eq_getElem hjl]
    by_cases he : r.L[j].id = d <;> simp [he]
end Go.Proofs
namespace Go.Proofs
open Go X RowKit
theorem fnd_first {p : Int × Int} : ∀ (F : List Fr) (j : Nat) (hj : j < F.length), (∀ i (hi : i < F.length), i < j → F[i].1 ≠ p) → F[j].1 = p → fnd p F = some F[j].2
  | x :: F, 0, hj, _, h => by
    simp only [List.getElem_cons_zero] at h ⊢
    rw [fnd, if_pos h.symm]
  | x :: F, j + 1, hj, h1, h => by
    have h0 := h1 0 (by simp) (by omega)
    simp only [List.getElem_cons_zero, List.getElem_cons_succ] at h h0 ⊢
    rw [fnd, if_neg (fun e => h0 e.symm)]
    exact fnd_first F j _ (fun i hi hij => by have := h1 (i + 1) (by simpa using hi) (by omega); simpa using this) h
theorem fnd_no {p : Int × Int} {F : List Fr} (h : ∀ i (hi : i < F.length), i < F.length → F[i].1 ≠ p) : fnd p F = none := by
  rw [fnd_none]
  intro hm
  obtain ⟨x, hx, e⟩ := List.mem_map.1 hm
  obtain ⟨i, hi, rfl⟩ := List.mem_iff_getElem.1 hx
  exact h i hi hi e
theorem c_rFloor (b : Nat) (r : Rt) (p : Int × Int) (hr : r.Ok) : Ctr Try.prog 33 #[.pointer (some ⟨b, 0, none⟩), pkV p] noMem [rtA b r] (fun _ : Unit => .int .u32 (floorF r.F p)) (fun _ _ => True) (fun _ => [rtA b r]) := by
  refine Ctr.mk fun w F m C _ => x_rFloor _ _ _ w _ fun w1 L2 h1 g1 => ?_
  obtain ⟨s, q, C⟩ := rtO C
  replace C := C.hidL h1 g1
  have hfl := hr.fl
  refine ⟨fun n w' L' => ∃ (j : Nat), n = j ∧ j ≤ r.F.length ∧ (∀ i (hi : i < r.F.length), i < j → r.F[i].1 ≠ p) ∧ Ctx F m w w' L' m (rtAs b r s q), fun n _ => (r.F.length - n).toNat, ⟨0, rfl, by omega, fun i hi h => by omega, C⟩, ?_⟩
  clear C h1 g1
  rintro n w6 L7 _ ⟨j, rfl, hj, hlt, D⟩
  have hcell : ∀ {w' L'}, Ctx F m w w' L' m (rtAs b r s q) → w'.cell? ((⟨b, 0, none⟩ : Addr).add 2) = some (slV q r.F.length) ∧ (⟨b, 0, none⟩ : Addr).block ∉ L' := fun D => ⟨by rw [Addr.add_mid]; exact D.blkCell (j := 2) rfl, D.blkAt.2⟩
  refine ⟨_, _, _, (hcell D).1, (hcell D).2, ?_⟩
  by_cases hjl : j < r.F.length
  rotate_left
  · rw [if_neg (by simpa using hjl)]
    have hf : fnd p r.F = none := fnd_no fun i hi h => hlt i hi (by omega)
    exact Ctr.ret () (by rw [floorF, hf]; rfl) trivial (rtI s q D)
  rw [if_pos (by simpa using hjl)]
  refine ⟨_, _, _, (hcell D).1, (hcell D).2, by omega, by simpa using hjl, ?_⟩
  obtain ⟨pa, hpa, hc, hcb⟩ := sl_elem fr_len (by decide) (D.pm [2, 0, 1] rfl) hjl
  obtain ⟨q1, q2⟩ := q
  simp only at hpa
  subst hpa
  rw [onSome_some]
  refine ⟨r.F[j].1.1, r.F[j].1.2, by rw [Int.toNat_natCast]; exact cells_part hc 0 _ (fun k v h => by rw [Nat.zero_add]; match k, h with | 0, h | 1, h => exact h), by rw [Int.toNat_natCast, Addr.add_zero']; exact hcb, ?_⟩
  by_cases he : r.F[j].1 = p
  · rw [if_pos (by rw [he]; simp)]
    refine ⟨_, _, _, (hcell D).1, (hcell D).2, by omega, by simpa using hjl, ?_⟩
    rw [onSome_some]
    refine ⟨r.F[j].2, by rw [Int.toNat_natCast]; exact hc 2 _ rfl, by rw [Int.toNat_natCast]; exact hcb, fun w24 h24 => ?_⟩
    exact Ctr.ret () (by rw [floorF, fnd_first _ j hjl hlt he]; rfl) trivial (rtI _ _ (D.hid0 h24))
  · rw [if_neg (by intro h; simp only [Bool.and_eq_true, beq_iff_eq] at h; exact he (Prod.ext h.1 h.2))]
    intro w17 L18 h17 g17
    have e : IntKind.wrap .i64 ((j : Int) + 1) = ((j + 1 : Nat) : Int) := by rw [w_i64 (by omega) (by omega)]; omega
    rw [e]
    refine ⟨rfl, ⟨j + 1, rfl, hjl, fun i hi hij => ?_, D.hidL h17 g17⟩, Nat.le_of_eq (by show ((r.F.length : Int) - ((j + 1 : Nat) : Int)).toNat + 1 = ((r.F.length : Int) - (j : Int)).toNat; omega)⟩
    by_cases hi2 : i = j
    · subst hi2; exact he
    · exact hlt i hi (by omega)
theorem c_rold (b : Nat) (r : Rt) (d : I) (hr : r.Ok) : Ctr Try.prog 51 #[.pointer (some ⟨b, 0, none⟩), d.V] noMem [rtA b r] (fun _ : Unit => .bool (oldF r.F d)) (fun _ _ => True) (fun _ => [rtA b r]) := by
  refine Ctr.mk fun w F m C _ => x_rold _ _ _ _ _ _ _ _ _ _ _ w _ ⟨[], facts_nil _ _, ?_⟩
  by_cases h : d.d = 0
  · rw [if_pos (by simp [h])]
    intro w3 L4 h3 g3
    refine (c_rFloor b r (d.n, d.l) hr).call (As := []) (C.hidL h3 g3) trivial fun _ m2 w6 hk hm _ C => ⟨_, rfl, hk, facts_nil _ _, ?_⟩
    exact Ctr.ret () (by simp [oldF, h]) trivial C
  · rw [if_neg (by simpa using h)]
    intro w2 h2
    exact Ctr.ret () (by simp [oldF, h]) trivial (C.hid0 h2)
theorem rfnd_some {L : List Rw} {d : I} {x : Rw} (h : rfnd L d = some x) : ∃ hk : fK L d < L.length, L[fK L d] = x ∧ x.id = d := by
  rw [rfnd] at h
  cases hg : L[fK L d]? with
  | none => rw [hg] at h; cases h
  | some y =>
    rw [hg] at h
    simp only at h
    split at h
    · injection h with h; subst h
      obtain ⟨hk, e⟩ := List.getElem?_eq_some_iff.1 hg
      exact ⟨hk, e, ‹_›⟩
    · cases h
theorem c_rState (b : Nat) (r : Rt) (d : I) (hd : d.In) (hr : r.Ok) : Ctr Try.prog 32 #[.pointer (some ⟨b, 0, none⟩), d.V] noMem [rtA b r] (fun _ : Unit => .int .i64 (stateR r d)) (fun _ _ => True) (fun _ => [rtA b r]) := by
  refine Ctr.mk fun w F m C _ => x_rState _ _ _ _ _ _ _ _ _ _ _ w _ fun w1 L2 h1 g1 => ?_
  refine (c_rfind b r d hd hr).call (As := []) (C.hidL h1 g1) trivial fun _ m1 w4 hk hm _ C => ⟨_, _, rfl, hk, ?_⟩
  cases hf : rfnd r.L d with
  | some x =>
    obtain ⟨hk, hx, hxd⟩ := rfnd_some hf
    rw [if_pos (by simp)]
    obtain ⟨s, q, C⟩ := rtO C
    refine ⟨_, _, _, by rw [Addr.add_mid]; exact C.blkCell (j := 1) rfl, C.blkAt.2, by omega, by simpa using hk, ?_⟩
    obtain ⟨pa, hpa, hc, hcb⟩ := sl_elem rw_len (by decide) (C.pm [1, 0, 2] rfl) hk
    rw [hpa, onSome_some]
    refine ⟨r.L[fK r.L d].ended, by rw [Int.toNat_natCast]; exact hc 10 _ rfl, by rw [Int.toNat_natCast]; exact hcb, ?_⟩
    rw [hx]
    cases he : x.ended with
    | true =>
      rw [if_pos (by simp)]
      exact Ctr.ret () (by rw [stateR, hf]; simp [he]) trivial (rtI s q C)
    | false =>
      rw [if_neg (by simp), if_pos (by simp)]
      exact Ctr.ret () (by rw [stateR, hf]; simp [he]) trivial (rtI s q C)
  | none =>
    rw [if_neg (by simp), if_neg (by simp)]
    refine (c_rold b r d hr).call (As := []) C trivial fun _ m2 w8 hk2 hm2 _ C => ⟨_, rfl, hk2, ?_⟩
    cases ho : oldF r.F d with
    | true =>
      rw [if_pos rfl]
      exact Ctr.ret () (by rw [stateR, hf]; simp [ho]) trivial C
    | false =>
      rw [if_neg (by decide)]
      obtain ⟨s, q, C⟩ := rtO C
      have hfw : ∀ {w' L' m'}, Ctx F m w w' L' m' (rtAs b r s q ++ []) → FactsW [(⟨b, 0, none⟩, [.int .i64 r.win])] w' L' := fun C => C.blkFact1 0 _ rfl (facts_nil _ _)
      refine ⟨_, hfw C, ?_⟩
      by_cases h : d.d = 0
      · rw [if_pos (by simp [h])]
        refine ⟨r.win, by simp [Addr.add_mid], fun w13 L14 h13 g13 => ?_⟩
        refine (c_rFloor b r (d.n, d.l) hr).call (As := []) (rtI s q (C.hidL h13 g13)) trivial fun _ m3 w16 hk3 hm3 _ C => ⟨_, rfl, hk3, ?_, ?_⟩
        · obtain ⟨s2, q2, C⟩ := rtO C
          exact C.blkFact1 0 _ rfl (facts_nil _ _)
        · have hfl := floor_in hr.f (d.n, d.l)
          have hs := hd.s
          rw [w_i64 (n := d.s) (by omega) (by omega), w_i64 (n := floorF r.F (d.n, d.l)) (by omega) (by omega), w_i64 (by omega) (by omega)]
          by_cases hw : d.s - floorF r.F (d.n, d.l) > r.win
          · rw [if_pos (by simpa using hw)]
            exact Ctr.ret () (by rw [stateR, hf]; simp only [ho, h, hw]; rfl) trivial C
          · rw [if_neg (by simpa using hw)]
            exact Ctr.ret () (by rw [stateR, hf]; simp only [ho, h, hw]; rfl) trivial C
      · rw [if_neg (by simpa using h)]
        intro w11 h11
        have hdb : (d.d == 0) = false := by simpa using h
        exact Ctr.ret () (by rw [stateR, hf]; simp only [ho, hdb]; rfl) trivial (rtI s q (C.hid0 h11))
end Go.Proofs
namespace Go.Proofs
open Go X RowKit
def insR (L : List Rw) (d : I) : List Rw := (L.take (fK L d) ++ [Rw.fresh d]) ++ L.drop (fK L d)
def beginR (r : Rt) (d : I) : Int × Rt := if d.right then (if stateR r d = 1 ∨ stateR r d = 2 then (4, r) else if stateR r d = 3 then (16, r) else if stateR r d = 4 then (10, r) else (0, { r with L := insR r.L d })) else (1, r)
theorem rw_one (x : Rw) : ∀ u ∈ x.row, oneC u = true := by intro u h; simp [Rw.row] at h; rcases h with rfl | rfl | rfl | rfl | rfl | rfl | rfl | rfl | rfl | rfl | rfl | rfl | rfl <;> rfl
theorem rws_one (l : List Rw) : ∀ u ∈ l.flatMap Rw.row, oneC u = true := flat_one rw_one l
section
variable {F0 : List Nat} {m0 : Mem} {w0 w : World} {L : List Nat} {m : Mem} {As : List Asn} {A0 : Asn}
/-- rows of an owned slice, put behind another's -/
theorem app_take {p : Sl} {l out : List Rw} {q : Option Addr} {c : Nat} (hl : l.length ≤ 100000) (ho : out.length ≤ 100001) (k : Nat) (hk : k ≤ l.length) (c2 : Nat) (C : Ctx F0 m0 w0 w L m (A0 :: rwsA p l :: rwsA (q, c) out :: As)) :
    ∃ q1 c1 w2, (Builtin.append_ #[79, 79] 79 #[.slice q out.length c, .slice (cutA p.1 p.2 0 13) k c2]).run Try.prog w = .ok (.slice q1 (out ++ l.take k).length c1) w2 ∧ Kept L w w2 ∧ Ctx F0 m0 w0 w2 L m (A0 :: rwsA p l :: rwsA (q1, c1) (out ++ l.take k) :: As) := by
  have hs := Ctx.srcTake C.swap k hk c2
  rw [flat_take rw_len] at hs
  obtain ⟨q1, c1, w2, hr, hkk, C2⟩ := Ctx.app (P := Try.prog) (bytes := 200) (t := 79) (t2 := 79) C.third 79 (by kernel_rfl) hs (by omega) (rws_one _)
  have e1 : (out ++ l.take k).length = out.length + k := by rw [List.length_append, List.length_take]; omega
  have e2 : (out ++ l.take k).flatMap Rw.row = out.flatMap Rw.row ++ (l.take k).flatMap Rw.row := by simp
  refine ⟨q1, c1, w2, by rw [e1]; exact hr, hkk, ?_⟩
  unfold rwsA slV
  rw [e1, e2]
  exact C2.perm (List.Perm.trans (.swap ..) (List.Perm.cons _ (.swap ..)))
theorem app_drop {p : Sl} {l out : List Rw} {q : Option Addr} {c : Nat} (hl : l.length ≤ 100000) (ho : out.length ≤ 100001) (k : Nat) (hk : k ≤ l.length) (c2 : Nat) (C : Ctx F0 m0 w0 w L m (A0 :: rwsA p l :: rwsA (q, c) out :: As)) :
    ∃ q1 c1 w2, (Builtin.append_ #[79, 79] 79 #[.slice q out.length c, .slice (cutA p.1 p.2 k 13) (l.length - k) c2]).run Try.prog w = .ok (.slice q1 (out ++ l.drop k).length c1) w2 ∧ Kept L w w2 ∧ Ctx F0 m0 w0 w2 L m (A0 :: rwsA p l :: rwsA (q1, c1) (out ++ l.drop k) :: As) := by
  have hs := Ctx.srcDrop C.swap k hk c2
  rw [flat_drop rw_len] at hs
  obtain ⟨q1, c1, w2, hr, hkk, C2⟩ := Ctx.app (P := Try.prog) (bytes := 200) (t := 79) (t2 := 79) C.third 79 (by kernel_rfl) hs (by omega) (rws_one _)
  have e1 : (out ++ l.drop k).length = out.length + (l.length - k) := by rw [List.length_append, List.length_drop]
  have e2 : (out ++ l.drop k).flatMap Rw.row = out.flatMap Rw.row ++ (l.drop k).flatMap Rw.row := by simp
  refine ⟨q1, c1, w2, by rw [e1]; exact hr, hkk, ?_⟩
  unfold rwsA slV
  rw [e1, e2]
  exact C2.perm (List.Perm.trans (.swap ..) (List.Perm.cons _ (.swap ..)))
theorem app_one {p : Sl} {l out : List Rw} {q : Option Addr} {c : Nat} (x : Rw) {a1 : Nat} (ho : out.length ≤ 100001) (C : Ctx F0 m0 w0 w L m (A0 :: rwsA p l :: rwsA (q, c) out :: As)) (hc : Cells w ⟨a1, 0, none⟩ x.row) :
    ∃ q1 c1 w2, (Builtin.append_ #[79, 79] 79 #[.slice q out.length c, .slice (some ⟨a1, 0, none⟩) 1 1]).run Try.prog w = .ok (.slice q1 (out ++ [x]).length c1) w2 ∧ Kept L w w2 ∧ Ctx F0 m0 w0 w2 L m (A0 :: rwsA p l :: rwsA (q1, c1) (out ++ [x]) :: As) := by
  obtain ⟨q1, c1, w2, hr, hkk, C2⟩ := Ctx.app (P := Try.prog) (bytes := 200) (t := 79) (t2 := 79) C.third 79 (by kernel_rfl) (.some _ 1 1 x.row rfl hc) (by omega) (rw_one _)
  have e1 : (out ++ [x]).length = out.length + 1 := by simp
  have e2 : (out ++ [x]).flatMap Rw.row = out.flatMap Rw.row ++ x.row := by simp
  refine ⟨q1, c1, w2, by rw [e1]; exact hr, hkk, ?_⟩
  unfold rwsA slV
  rw [e1, e2]
  exact C2.perm (List.Perm.trans (.swap ..) (List.Perm.cons _ (.swap ..)))
end
theorem c_ref_RightP (n l : Int) : Gives Try.prog 55 #[PV n l] (.bool (rightP n l)) := c_ref_RightProc n l

theorem c_rBegin (b : Nat) (r : Rt) (d : I) (hd : d.In) (hr : r.Ok) : Ctr Try.prog 22 #[.pointer (some ⟨b, 0, none⟩), d.V] noMem [rtA b r] (fun _ : Unit => .int .i64 (beginR r d).1) (fun _ _ => True) (fun _ => [rtA b (beginR r d).2]) := by
  refine Ctr.mk fun w F m C _ => x_rBegin _ _ _ _ _ _ _ _ _ _ _ w _ fun w1 L2 h1 g1 => ?_
  refine (C.hidL h1 g1).gives (c_ref_Right d hd) fun w4 k4 C => ⟨_, rfl, k4, ?_⟩
  cases hright : d.right with
  | false =>
    rw [if_pos (by decide)]
    have e : beginR r d = (1, r) := by simp [beginR, hright]
    rw [e]; exact Ctr.ret () rfl trivial C
  | true =>
  rw [if_neg (by decide)]
  refine (c_rState b r d hd hr).call (As := []) C trivial fun _ m2 w7 hk hm _ C => ⟨_, rfl, hk, ?_⟩
  by_cases s1 : stateR r d = 1
  · rw [if_pos (by simp [s1]), if_pos (by simp [s1])]
    have e : beginR r d = (4, r) := by simp [beginR, hright, s1]
    rw [e]; exact Ctr.ret () rfl trivial C
  rw [if_neg (by simpa using s1)]
  by_cases s2 : stateR r d = 2
  · rw [if_pos (by simp [s2])]
    have e : beginR r d = (4, r) := by simp [beginR, hright, s2]
    rw [e]; exact Ctr.ret () rfl trivial C
  rw [if_neg (by simpa using s2)]
  by_cases s3 : stateR r d = 3
  · rw [if_pos (by simp [s3])]
    have e : beginR r d = (16, r) := by simp [beginR, hright, s3]
    rw [e]; exact Ctr.ret () rfl trivial C
  rw [if_neg (by simpa using s3)]
  by_cases s4 : stateR r d = 4
  · rw [if_pos (by simp [s4])]
    have e : beginR r d = (10, r) := by simp [beginR, hright, s4]
    rw [e]; exact Ctr.ret () rfl trivial C
  rw [if_neg (by simpa using s4)]
  have e : beginR r d = (0, { r with L := insR r.L d }) := by simp [beginR, hright, s1, s2, s3, s4]
  rw [e]
  refine (c_rfind b r d hd hr).call (As := []) C trivial fun _ m3 w10 hk hm3 _ C => ⟨_, _, rfl, hk, ?_⟩
  obtain ⟨p, q, C⟩ := rtO C
  replace C : Ctx F m w w10 L2 m3 [blk b (r.cells p q) 82, rwsA p r.L, frsA q r.F] := C
  have hcap := (Ctx.slCap C.swap).1
  have hkl := fK_le r.L d
  have hll := hr.ll
  have hfw : ∀ {w' L' m'} {As : List Asn}, Ctx F m w w' L' m' (blk b (r.cells p q) 82 :: As) → FactsW [(⟨b, 1, none⟩, [slV p r.L.length])] w' L' := fun C => C.blkFact1 1 _ rfl (facts_nil _ _)
  refine ⟨_, hfw C, p.1, r.L.length, p.2, by simp [Addr.add_mid], by omega, by omega, p.1, r.L.length, p.2, by simp [Addr.add_mid], by omega, by omega, ?_⟩
  rw [Int.toNat_natCast]
  -- the end
  have fin : ∀ {w' : World} {L' : List Nat} {As : List Asn} {q1 : Option Addr} {c1 : Nat}, Ctx F m w w' L' m3 (blk b (r.cells p q) 82 :: rwsA p r.L :: rwsA (q1, c1) (insR r.L d) :: frsA q r.F :: As) →
      FactsW [(⟨b, 1, none⟩, [slV p r.L.length])] w' L' ∧ (none : Option Nat) = none ∧ World.there w' b (0 + 1) 1 ∧ (b ∉ L') ∧ ∃ i : Unit, ∃ m' L, (Ending.returned (.int .i64 0) = .returned (.int .i64 0)) ∧ True ∧ Ctx F m w (w'.setCells b (0 + 1) [.slice q1 (insR r.L d).length c1]) L m' [rtA b { r with L := insR r.L d }] := by
    intro w' L' As q1 c1 C
    refine ⟨hfw C, rfl, C.there _ _ (by simp), C.blkAt.2, (), m3, L', rfl, trivial, ?_⟩
    have C2 := C.store 1 [slV (q1, c1) (insR r.L d).length] (by simp)
    refine rtI (q1, c1) q ?_
    have C3 : Ctx F m w _ L' m3 ([_, rwsA (q1, c1) (insR r.L d), frsA q r.F] ++ (rwsA p r.L :: As)) := C2.perm (List.Perm.cons _ ((List.Perm.swap ..).trans (List.Perm.cons _ (List.Perm.swap ..))))
    exact C3.left
  have hl0 : ∀ (a0 : Nat) {w' L'} {As : List Asn}, Ctx F m w w' L' m3 (blk b (r.cells p q) 82 :: rwsA p r.L :: As) → Ctx F m w w' L' m3 (blk b (r.cells p q) 82 :: rwsA p r.L :: rwsA (some ⟨a0, 0, none⟩, 0) [] :: As) := fun a0 {w' L' As} C =>
    (Ctx.slNil (q := some ⟨a0, 0, none⟩) (ty := 94) (sz := 13) C).perm ((List.Perm.swap ..).trans (List.Perm.cons _ (List.Perm.swap ..)))
  have hrow : ∀ {w' L'} {As : List Asn}, Ctx F m w w' L' m3 (blk b (r.cells p q) 82 :: rwsA p r.L :: As) → Ctx F m w (w'.alloc (.cells (Rw.fresh d).row.toArray 94)) L' m3 (blk b (r.cells p q) 82 :: rwsA p r.L :: (As ++ [blk w'.heap.size (Rw.fresh d).row 94])) := fun C => (C.alloc (Rw.fresh d).row 94).rot
  have hrc : ∀ {w' L'} {a1 : Nat} {As : List Asn}, Ctx F m w w' L' m3 (As ++ [blk a1 (Rw.fresh d).row 94]) → Cells w' ⟨a1, 0, none⟩ (Rw.fresh d).row := fun C => (C.perm List.perm_append_comm).blkCells (o := 0) fun j v e => by simpa using e
  refine ⟨fun w71 L72 h71 g71 => ?_, fun w97 L98 h97 g97 => ?_⟩
  · have D0 := hl0 w71.heap.size ((C.hidL h71 g71).newDrop [] 94)
    refine ⟨hfw D0, ?_, ?_⟩
    · obtain ⟨q1, c1, w2, hr1, hk1, D1⟩ := app_take hll (by simp) (fK r.L d) hkl p.2 D0
      refine ⟨q1, _, c1, w2, hr1, hk1, hfw D1, ?_⟩
      have D2 := hrow D1
      refine ⟨hfw D2, ?_⟩
      obtain ⟨q2, c2, w3, hr2, hk2, D3⟩ := app_one (Rw.fresh d) (by rw [List.nil_append, List.length_take]; omega) D2 (hrc (As := [_, _, _, _]) D2)
      refine ⟨q2, _, c2, w3, hr2, hk2, hfw D3, ?_⟩
      obtain ⟨q3, c3, w4, hr3, hk3, D4⟩ := app_drop hll (by rw [List.length_append, List.nil_append, List.length_take, List.length_singleton]; omega) (fK r.L d) hkl (p.2 - fK r.L d) D3
      exact ⟨q3, _, c3, w4, hr3, hk3, fin D4⟩
    · have D2 := hrow D0
      refine ⟨hfw D2, ?_⟩
      obtain ⟨q1, c1, w2, hr1, hk1, D1⟩ := app_take hll (by simp) (fK r.L d) hkl p.2 D2
      refine ⟨q1, _, c1, w2, hr1, hk1, hfw D1, ?_⟩
      obtain ⟨q2, c2, w3, hr2, hk2, D3⟩ := app_one (Rw.fresh d) (by rw [List.nil_append, List.length_take]; omega) D1 (hrc (As := [_, _, _, _]) D1)
      refine ⟨q2, _, c2, w3, hr2, hk2, hfw D3, ?_⟩
      obtain ⟨q3, c3, w4, hr3, hk3, D4⟩ := app_drop hll (by rw [List.length_append, List.nil_append, List.length_take, List.length_singleton]; omega) (fK r.L d) hkl (p.2 - fK r.L d) D3
      exact ⟨q3, _, c3, w4, hr3, hk3, fin D4⟩
  · have D0 := hrow (C.hidL h97 g97)
    refine ⟨hfw D0, ?_⟩
    have D2 := hl0 (w97.alloc (.cells (Rw.fresh d).row.toArray 94)).heap.size (D0.newDrop [] 94)
    refine ⟨hfw D2, ?_⟩
    obtain ⟨q1, c1, w2, hr1, hk1, D1⟩ := app_take hll (by simp) (fK r.L d) hkl p.2 D2
    refine ⟨q1, _, c1, w2, hr1, hk1, hfw D1, ?_⟩
    obtain ⟨q2, c2, w3, hr2, hk2, D3⟩ := app_one (Rw.fresh d) (by rw [List.nil_append, List.length_take]; omega) D1 (hrc (As := [_, _, _, _]) D1)
    refine ⟨q2, _, c2, w3, hr2, hk2, hfw D3, ?_⟩
    obtain ⟨q3, c3, w4, hr3, hk3, D4⟩ := app_drop hll (by rw [List.length_append, List.nil_append, List.length_take, List.length_singleton]; omega) (fK r.L d) hkl (p.2 - fK r.L d) D3
    exact ⟨q3, _, c3, w4, hr3, hk3, fin D4⟩
end Go.Proofs
namespace Go.Proofs
open Go X RowKit
theorem cut0 (q : Option Addr) (c z : Nat) : cutA q c 0 z = q := by
  unfold cutA; split
  · rfl
  · cases q <;> simp [Addr.add]
theorem add_off (a : Addr) (n : Nat) : (a.add n).off = a.off + n := by
  unfold Addr.add; split
  · subst_vars; rfl
  · rfl
def Rw.told (x : Rw) (c : Int) (s : ByteArray) : Rw := { x with ended := true, code := c, val := s }
def endR (r : Rt) (d : I) (c : Int) (s : ByteArray) : Bool × Rt := match rfnd r.L d with
  | some x => if x.ended then (false, r) else if oldF r.F d then (true, { r with L := r.L.take (fK r.L d) ++ r.L.drop (fK r.L d + 1) }) else (true, { r with L := r.L.set (fK r.L d) (x.told c s) })
  | none => (false, r)
section
variable {F0 : List Nat} {m0 : Mem} {w0 w : World} {L : List Nat} {m : Mem} {As : List Asn} {A0 : Asn}
theorem app_all {p : Sl} {l out : List Rw} {q : Option Addr} {c : Nat} (hl : l.length ≤ 100000) (ho : out.length ≤ 100001) (C : Ctx F0 m0 w0 w L m (A0 :: rwsA p l :: rwsA (q, c) out :: As)) :
    ∃ q1 c1 w2, (Builtin.append_ #[79, 79] 79 #[.slice q out.length c, slV p l.length]).run Try.prog w = .ok (.slice q1 (out ++ l).length c1) w2 ∧ Kept L w w2 ∧ Ctx F0 m0 w0 w2 L m (A0 :: rwsA p l :: rwsA (q1, c1) (out ++ l) :: As) := by
  have hs := Ctx.slSrc C.swap
  obtain ⟨q1, c1, w2, hr, hkk, C2⟩ := Ctx.app (P := Try.prog) (bytes := 200) (t := 79) (t2 := 79) C.third 79 (by kernel_rfl) hs (by omega) (rws_one _)
  have e1 : (out ++ l).length = out.length + l.length := by rw [List.length_append]
  have e2 : (out ++ l).flatMap Rw.row = out.flatMap Rw.row ++ l.flatMap Rw.row := by simp
  refine ⟨q1, c1, w2, by rw [e1]; exact hr, hkk, ?_⟩
  unfold rwsA slV
  rw [e1, e2]
  exact C2.perm (List.Perm.trans (.swap ..) (List.Perm.cons _ (.swap ..)))
theorem app_cut {out : List Rw} {q : Option Addr} {c : Nat} (ho : out.length ≤ 100001) (k : Nat) (hk : k < out.length) (C : Ctx F0 m0 w0 w L m (A0 :: rwsA (q, c) out :: As)) :
    ∃ q1 c1 w2, (Builtin.append_ #[79, 79] 79 #[.slice (cutA q c 0 13) k c, .slice (cutA q c (k + 1) 13) (out.length - (k + 1)) (c - (k + 1))]).run Try.prog w = .ok (.slice q1 (out.take k ++ out.drop (k + 1)).length c1) w2 ∧ Kept L w w2 ∧
      Ctx F0 m0 w0 w2 L m (A0 :: rwsA (q1, c1) (out.take k ++ out.drop (k + 1)) :: As) := by
  have hs := Ctx.srcDrop C.swap (k + 1) hk (c - (k + 1))
  rw [flat_drop rw_len] at hs
  have C1 := Ctx.slTake C.swap k (by omega)
  rw [flat_take rw_len] at C1
  obtain ⟨q1, c1, w2, hr, hkk, C2⟩ := Ctx.app (P := Try.prog) (bytes := 200) (t := 79) (t2 := 79) C1 79 (by kernel_rfl) hs (by omega) (rws_one _)
  have e1 : (out.take k ++ out.drop (k + 1)).length = k + (out.length - (k + 1)) := by rw [List.length_append, List.length_take, List.length_drop]; omega
  have e2 : (out.take k ++ out.drop (k + 1)).flatMap Rw.row = (out.take k).flatMap Rw.row ++ (out.drop (k + 1)).flatMap Rw.row := by simp
  refine ⟨q1, c1, w2, by rw [e1, cut0]; exact hr, hkk, ?_⟩
  unfold rwsA slV
  rw [e1, e2]
  exact C2.swap
/-- cells of a row, written -/
theorem put_row {out : List Rw} {q : Option Addr} {c : Nat} (k : Nat) (hk : k < out.length) (o : Nat) (v : Value) (vs : List Value) (ho : o + (v :: vs).length ≤ 13) (y : Rw) (hy : y.row = splice (out[k]).row o (v :: vs)) (C : Ctx F0 m0 w0 w L m (A0 :: rwsA (q, c) out :: As)) :
    ∃ a, q = some a ∧ World.there w (a.add (k * 13)).block ((a.add (k * 13)).off + o) (v :: vs).length ∧ (a.add (k * 13)).block ∉ L ∧ Ctx F0 m0 w0 (w.setCells (a.add (k * 13)).block ((a.add (k * 13)).off + o) (v :: vs)) L m (A0 :: rwsA (q, c) (out.set k y) :: As) := by
  obtain ⟨a, rfl, _, h1, h2, C2⟩ := Ctx.slPut C.swap (k * 13 + o) v vs (by rw [flat_len rw_len]; have := Nat.mul_le_mul_right 13 (show k + 1 ≤ out.length from hk); omega)
  rw [flat_put rw_len out k hk ho hy] at C2
  refine ⟨a, rfl, by rw [addr_block, add_off, Nat.add_assoc]; exact h1, by rw [addr_block]; exact h2, ?_⟩
  rw [addr_block, add_off, Nat.add_assoc]
  unfold rwsA slV
  rw [List.length_set]
  exact C2.swap
end
theorem c_rEnd (b : Nat) (r : Rt) (d : I) (c : Int) (s : ByteArray) (hd : d.In) (hr : r.Ok) : Ctr Try.prog 25 #[.pointer (some ⟨b, 0, none⟩), d.V, .agg #[.int .u8 c, .string s]] noMem [rtA b r] (fun _ : Unit => .bool (endR r d c s).1) (fun _ _ => True) (fun _ => [rtA b (endR r d c s).2]) := by
  refine Ctr.mk fun w F m C _ => x_rEnd _ _ _ _ _ _ _ _ _ _ _ _ _ w _ fun w1 L2 h1 g1 => ?_
  refine (c_rfind b r d hd hr).call (As := []) (C.hidL h1 g1) trivial fun _ m1 w4 hk hm _ C => ⟨_, _, rfl, hk, ?_⟩
  cases hf : rfnd r.L d with
  | none =>
    rw [if_neg (by simp)]
    have e : endR r d c s = (false, r) := by rw [endR, hf]
    rw [e]; exact Ctr.ret () rfl trivial C
  | some x =>
  rw [if_pos (by simp)]
  obtain ⟨hkl, hx, hxd⟩ := rfnd_some hf
  have hll := hr.ll
  obtain ⟨p, q, C⟩ := rtO C
  replace C : Ctx F m w w4 L2 m1 [blk b (r.cells p q) 82, rwsA p r.L, frsA q r.F] := C
  have hcell : ∀ {w' L' m'} {As : List Asn}, Ctx F m w w' L' m' (blk b (r.cells p q) 82 :: As) → w'.cell? ((⟨b, 0, none⟩ : Addr).add 1) = some (slV p r.L.length) ∧ (⟨b, 0, none⟩ : Addr).block ∉ L' := fun D => ⟨by rw [Addr.add_mid]; exact D.blkCell (j := 1) rfl, D.blkAt.2⟩
  refine ⟨_, _, _, (hcell C).1, (hcell C).2, by omega, by simpa using hkl, ?_⟩
  obtain ⟨pa, hpa, hc, hcb⟩ := sl_elem rw_len (by decide) (C.pm [1, 0, 2] rfl) hkl
  rw [hpa, onSome_some]
  refine ⟨r.L[fK r.L d].ended, by rw [Int.toNat_natCast]; exact hc 10 _ rfl, by rw [Int.toNat_natCast]; exact hcb, ?_⟩
  rw [hx]
  cases he : x.ended with
  | true =>
    rw [if_pos (by simp)]
    have e : endR r d c s = (false, r) := by rw [endR, hf]; simp [he]
    rw [e]; exact Ctr.ret () rfl trivial (rtI p q C)
  | false =>
  rw [if_neg (by simp)]
  clear hc hcb hpa pa
  have C1 := C.newDrop [] 94
  refine ⟨_, _, _, (hcell C1).1, (hcell C1).2, ?_⟩
  have C2 : Ctx F m w (w4.alloc (.cells #[] 94)) L2 m1 [blk b (r.cells p q) 82, rwsA p r.L, rwsA (some ⟨w4.heap.size, 0, none⟩, 0) [], frsA q r.F] := (Ctx.slNil (q := some ⟨w4.heap.size, 0, none⟩) (ty := 94) (sz := 13) C1).perm ((List.Perm.swap ..).trans (List.Perm.cons _ (List.Perm.swap ..)))
  obtain ⟨q1, c1, w18, hr1, hk1, C3⟩ := app_all hll (by simp) C2
  refine ⟨q1, _, c1, w18, hr1, hk1, ?_⟩
  rw [List.nil_append] at C3 ⊢
  have C4 : Ctx F m w w18 L2 m1 ([rtA b r] ++ [rwsA (q1, c1) r.L]) := rtI p q (C3.pm [0, 1, 3, 2] rfl)
  refine (c_rold b r d hr).call (As := [rwsA (q1, c1) r.L]) C4 trivial fun _ m2 w20 hk2 hm2 _ C => ⟨_, rfl, hk2, ?_⟩
  have e : IntKind.wrap .i64 ((fK r.L d : Int) + 1) = ((fK r.L d + 1 : Nat) : Int) := by rw [w_i64 (by omega) (by omega)]; omega
  obtain ⟨p', q', C⟩ := rtO C
  have C5 : Ctx F m w w20 L2 m2 [blk b (r.cells p' q') 82, rwsA (q1, c1) r.L, frsA q' r.F] := C.pk [0, 3, 2] [1] rfl
  have hcap := (Ctx.slCap C5.swap).1
  cases ho : oldF r.F d with
  | true =>
    rw [if_pos rfl, e]
    refine ⟨[], facts_nil _ _, by omega, by omega, by omega, by omega, fun w25 L26 h25 g25 => ?_⟩
    rw [Int.toNat_natCast, Int.toNat_natCast]
    obtain ⟨q2, c2, w30, hr3, hk3, C6⟩ := app_cut (by omega) (fK r.L d) hkl (C5.hidL h25 g25)
    refine ⟨q2, _, c2, w30, hr3, hk3, rfl, C6.there _ _ (by simp), C6.blkAt.2, ?_⟩
    have C7 := C6.store 1 [slV (q2, c2) (r.L.take (fK r.L d) ++ r.L.drop (fK r.L d + 1)).length] (by simp)
    have e2 : endR r d c s = (true, { r with L := r.L.take (fK r.L d) ++ r.L.drop (fK r.L d + 1) }) := by rw [endR, hf]; simp [he, ho]
    rw [e2]
    exact Ctr.ret () rfl trivial (rtI (q2, c2) q' C7)
  | false =>
    rw [if_neg (by decide)]
    refine ⟨by omega, by simpa using hkl, ?_⟩
    obtain ⟨a, rfl, ht1, hb1, C6⟩ := put_row (fK r.L d) hkl 10 (.bool true) [] (by decide) { x with ended := true } (by rw [hx]; rfl) C5
    rw [onSome_some, Int.toNat_natCast]
    refine ⟨rfl, ht1, hb1, by omega, by simpa using hkl, ?_⟩
    obtain ⟨a', ea, ht2, hb2, C7⟩ := put_row (fK r.L d) (by rw [List.length_set]; exact hkl) 11 (.int .u8 c) [.string s] (by simp) (x.told c s) (by rw [List.getElem_set_self]; rfl) C6
    injection ea with ea; subst ea
    rw [onSome_some]
    refine ⟨rfl, ht2, hb2, rfl, C7.there _ _ (by simp), C7.blkAt.2, ?_⟩
    have C8 := C7.store 1 [slV (some a, c1) r.L.length] (by simp)
    have e2 : endR r d c s = (true, { r with L := r.L.set (fK r.L d) (x.told c s) }) := by rw [endR, hf]; simp [he, ho]
    rw [List.set_set] at C8
    rw [e2]
    refine Ctr.ret (m' := m2) (L := L2) () rfl trivial (rtI (some a, c1) q' ?_)
    unfold rtAs Rt.cells
    simp only [List.length_set]
    exact C8
end Go.Proofs
namespace Go.Proofs
open Go X RowKit
def putR (F : List Fr) (p : Int × Int) (n : Int) : List Fr := (p, n) :: F.filter (fun x => !(x.1 == p))
def raiseR (r : Rt) (p : Int × Int) (n : Int) : Rt := if rightP p.1 p.2 && decide (n ≤ 1048576) && decide (n > floorF r.F p) then { r with F := putR r.F p n, L := r.L.filter (fun x => !pastF (putR r.F p n) p x.id x) } else r
theorem fr_one (x : Fr) : ∀ u ∈ frow x, oneC u = true := by intro u h; simp [frow] at h; rcases h with rfl | rfl | rfl <;> rfl
section
variable {F0 : List Nat} {m0 : Mem} {w0 w : World} {L : List Nat} {m : Mem} {As : List Asn} {A0 A1 A2 : Asn}
theorem app_oneF {out : List Fr} {q : Option Addr} {c : Nat} (x : Fr) {a1 : Nat} (ho : out.length ≤ 100001) (C : Ctx F0 m0 w0 w L m (frsA (q, c) out :: As)) (hc : Cells w ⟨a1, 0, none⟩ (frow x)) :
    ∃ q1 c1 w2, (Builtin.append_ #[80, 80] 80 #[.slice q out.length c, .slice (some ⟨a1, 0, none⟩) 1 1]).run Try.prog w = .ok (.slice q1 (out ++ [x]).length c1) w2 ∧ Kept L w w2 ∧ Ctx F0 m0 w0 w2 L m (frsA (q1, c1) (out ++ [x]) :: As) := by
  obtain ⟨q1, c1, w2, hr, hkk, C2⟩ := Ctx.app (P := Try.prog) (bytes := 200) (t := 80) (t2 := 80) C 80 (by kernel_rfl) (.some _ 1 1 (frow x) rfl hc) (by omega) (fr_one _)
  have e1 : (out ++ [x]).length = out.length + 1 := by simp
  have e2 : (out ++ [x]).flatMap frow = out.flatMap frow ++ frow x := by simp
  refine ⟨q1, c1, w2, by rw [e1]; exact hr, hkk, ?_⟩
  unfold frsA slV
  rw [e1, e2]
  exact C2
theorem app_oneR {out : List Rw} {q : Option Addr} {c : Nat} (x : Rw) {a1 : Nat} (ho : out.length ≤ 100001) (C : Ctx F0 m0 w0 w L m (rwsA (q, c) out :: As)) (hc : Cells w ⟨a1, 0, none⟩ x.row) :
    ∃ q1 c1 w2, (Builtin.append_ #[79, 79] 79 #[.slice q out.length c, .slice (some ⟨a1, 0, none⟩) 1 1]).run Try.prog w = .ok (.slice q1 (out ++ [x]).length c1) w2 ∧ Kept L w w2 ∧ Ctx F0 m0 w0 w2 L m (rwsA (q1, c1) (out ++ [x]) :: As) := by
  obtain ⟨q1, c1, w2, hr, hkk, C2⟩ := Ctx.app (P := Try.prog) (bytes := 200) (t := 79) (t2 := 79) C 79 (by kernel_rfl) (.some _ 1 1 x.row rfl hc) (by omega) (rw_one _)
  have e1 : (out ++ [x]).length = out.length + 1 := by simp
  have e2 : (out ++ [x]).flatMap Rw.row = out.flatMap Rw.row ++ x.row := by simp
  refine ⟨q1, c1, w2, by rw [e1]; exact hr, hkk, ?_⟩
  unfold rwsA slV
  rw [e1, e2]
  exact C2
end
theorem filter_take {α : Type} (f : α → Bool) (l : List α) (j : Nat) (h : j < l.length) : (l.take (j + 1)).filter f = (l.take j).filter f ++ (if f l[j] then [l[j]] else []) := by
  rw [List.take_succ_eq_append_getElem h, List.filter_append]
  congr 1
  cases hf : f l[j] <;> simp [hf]
theorem filter_lt {α : Type} (f : α → Bool) (l : List α) (j : Nat) : ((l.take j).filter f).length ≤ l.length := Nat.le_trans (List.length_filter_le _ _) (by rw [List.length_take]; omega)
theorem putR_len (F : List Fr) (p : Int × Int) (n : Int) : (putR F p n).length ≤ F.length + 1 := by
  rw [putR, List.length_cons]; have := List.length_filter_le (fun x : Fr => !(x.1 == p)) F; omega
theorem c_rRaise (b : Nat) (r : Rt) (p : Int × Int) (n : Int) (hr : r.Ok) (hfl : r.F.length < 100000) : Ctr Try.prog 27 #[.pointer (some ⟨b, 0, none⟩), pkV p, .int .u32 n] noMem [rtA b r] (fun _ : Unit => .tuple #[]) (fun _ _ => True) (fun _ => [rtA b (raiseR r p n)]) := by
  refine Ctr.mk fun w F m C _ => x_rRaise _ _ _ _ w _ fun w1 L2 h1 g1 => ?_
  refine (C.hidL h1 g1).gives (c_ref_RightProc p.1 p.2) fun w4 k4 C => ⟨_, rfl, k4, ?_⟩
  by_cases h1 : rightP p.1 p.2 = true ∧ n ≤ 1048576
  rotate_left
  · rw [if_neg (by
      intro hc
      apply h1
      simp only [beq_iff_eq, Bool.or_eq_false_iff, Bool.not_eq_false', decide_eq_false_iff_not] at hc
      exact ⟨hc.1, by omega⟩)]
    have e : raiseR r p n = r := by
      rw [raiseR, if_neg]
      intro hc
      simp only [Bool.and_eq_true, decide_eq_true_eq] at hc
      exact h1 hc.1
    rw [e]; exact Ctr.ret () rfl trivial C
  obtain ⟨hrp, hn⟩ := h1
  rw [if_pos (by rw [hrp]; simp; omega)]
  refine (c_rFloor b r p hr).call (As := []) C trivial fun _ m2 w7 hk hm _ C => ⟨_, rfl, hk, ?_⟩
  by_cases h2 : n ≤ floorF r.F p
  · rw [if_pos (by simpa using h2)]
    have e : raiseR r p n = r := by
      rw [raiseR, if_neg]
      intro hc
      simp only [Bool.and_eq_true, decide_eq_true_eq] at hc
      have := hc.2; omega
    rw [e]; exact Ctr.ret () rfl trivial C
  rw [if_neg (by simpa using h2)]
  have hn0 : 0 ≤ n := by have := (floor_in hr.f p).1; omega
  have er : raiseR r p n = { r with F := putR r.F p n, L := r.L.filter (fun x => !pastF (putR r.F p n) p x.id x) } := by
    rw [raiseR, if_pos]
    simp only [Bool.and_eq_true, decide_eq_true_eq]
    exact ⟨⟨hrp, hn⟩, by omega⟩
  rw [er]
  obtain ⟨s, q, C⟩ := rtO C
  replace C : Ctx F m w w7 L2 m2 (rtAs b r s q) := C
  have C1 := Ctx.slNew (cs := frow (p, n)) (n := 1) (ty := 96) (sz := 3) rfl (by decide) C
  have hll := hr.ll
  refine ⟨fun q1 k c1 i w' L' => ∃ (j : Nat), i = j ∧ j ≤ r.F.length ∧ k = ((p, n) :: (r.F.take j).filter (fun x => !(x.1 == p))).length ∧ Ctx F m w w' L' m2 (rtAs b r s q ++ [frsA (q1, c1) ((p, n) :: (r.F.take j).filter (fun x => !(x.1 == p)))]), fun _ _ _ i _ => (r.F.length - i).toNat,
    ⟨0, rfl, by omega, rfl, C1.rot⟩, ?_⟩
  clear C C1
  rintro q1 k c1 i w15 L16 _ ⟨j, rfl, hj, rfl, D⟩
  have hcell : ∀ {w' L' m'} {r : Rt} {q : Sl} {As : List Asn}, Ctx F m w w' L' m' (blk b (r.cells s q) 82 :: As) → w'.cell? ((⟨b, 0, none⟩ : Addr).add 2) = some (slV q r.F.length) ∧ (⟨b, 0, none⟩ : Addr).block ∉ L' := fun D => ⟨by rw [Addr.add_mid]; exact D.blkCell (j := 2) rfl, D.blkAt.2⟩
  refine ⟨_, _, _, (hcell D).1, (hcell D).2, ?_⟩
  by_cases hjl : j < r.F.length
  · rw [if_pos (by simpa using hjl)]
    refine ⟨_, _, _, (hcell D).1, (hcell D).2, by omega, by simpa using hjl, ?_⟩
    obtain ⟨pa, hpa, hc, hcb⟩ := sl_elem fr_len (by decide) (D.pm [2, 0, 1, 3] rfl) hjl
    rw [hpa, onSome_some]
    refine ⟨r.F[j].1.1, r.F[j].1.2, by rw [Int.toNat_natCast]; exact cells_part hc 0 _ (fun k v h => by rw [Nat.zero_add]; match k, h with | 0, h | 1, h => exact h), by rw [Int.toNat_natCast, Addr.add_zero']; exact hcb, ?_⟩
    have e : IntKind.wrap .i64 ((j : Int) + 1) = ((j + 1 : Nat) : Int) := by rw [w_i64 (by omega) (by omega)]; omega
    have hm : Nat.le (((r.F.length : Int) - ((j + 1 : Nat) : Int)).toNat + 1) ((r.F.length : Int) - (j : Int)).toNat := Nat.le_of_eq (by omega)
    have hft := filter_take (fun x : Fr => !(x.1 == p)) r.F j hjl
    have hlt := filter_lt (fun x : Fr => !(x.1 == p)) r.F j
    by_cases he : r.F[j].1 = p
    · rw [if_neg (by rw [he]; simp)]
      intro w69 L70 h69 g69
      rw [e]
      rw [if_neg (by simp [he]), List.append_nil] at hft
      exact ⟨rfl, ⟨j + 1, rfl, hjl, by rw [hft], by rw [hft]; exact D.hidL h69 g69⟩, hm⟩
    · have hb : (((r.F[j].1.1 == p.1) && (r.F[j].1.2 == p.2)) = true) ↔ r.F[j].1 = p := by
        simp only [Bool.and_eq_true, beq_iff_eq]
        exact ⟨fun h => Prod.ext h.1 h.2, fun h => by rw [h]; exact ⟨rfl, rfl⟩⟩
      have hbf : ((r.F[j].1.1 == p.1) && (r.F[j].1.2 == p.2)) = false := by
        rw [← Bool.not_eq_true, hb]; exact he
      rw [if_pos (by rw [hbf]; rfl)]
      refine ⟨_, _, _, (hcell D).1, (hcell D).2, by omega, by simpa using hjl, ?_⟩
      rw [hpa, onSome_some]
      refine ⟨_, _, _, by rw [Int.toNat_natCast]; exact hc, by rw [Int.toNat_natCast]; exact hcb, fun w78 L79 h78 g78 => ?_⟩
      have D1 := (D.hidL h78 g78).alloc (frow r.F[j]) 96
      have hcl : Cells _ ⟨w78.heap.size, 0, none⟩ (frow r.F[j]) := D1.blkCells (o := 0) fun j v e => by simpa using e
      obtain ⟨q2, c2, w83, hr2, hk2, D2⟩ := app_oneF r.F[j] (by rw [List.length_cons]; omega) (D1.pm [4, 1, 2, 3, 0] rfl) hcl
      rw [if_pos (by simp [he])] at hft
      rw [List.cons_append, ← hft] at D2 hr2
      refine ⟨q2, _, c2, w83, hr2, hk2, rfl, ?_, ?_⟩
      · rw [e]; exact ⟨j + 1, rfl, hjl, rfl, D2.pk [1, 2, 3, 0] [4] rfl⟩
      · rw [e]; exact hm
  rw [if_neg (by simpa using hjl)]
  have hjj : j = r.F.length := by omega
  rw [hjj, List.take_length] at D
  rw [hjj, List.take_length]
  clear hjj hjl hj
  change Ctx F m w w15 L16 m2 [blk b (r.cells s q) 82, rwsA s r.L, frsA q r.F, frsA (q1, c1) (putR r.F p n)] at D
  refine ⟨rfl, D.there _ _ (by simp), D.blkAt.2, ?_⟩
  have D1 := (D.store 2 [slV (q1, c1) (putR r.F p n).length] (by simp)).pk [0, 1, 3] [2] rfl
  have hr' : Rt.Ok { r with F := putR r.F p n } := ⟨hr.id, hr.ll, by have := putR_len r.F p n; simp only; omega, fun x hx => by
    rcases List.mem_cons.1 hx with rfl | hx
    · exact ⟨hn0, by simp only; omega⟩
    · exact hr.f x (List.mem_filter.1 hx).1⟩
  replace D1 : Ctx F m w (w15.setCells b (0 + 2) [slV (q1, c1) (putR r.F p n).length]) L16 m2 (rtAs b { r with F := putR r.F p n } s (q1, c1)) := D1
  generalize hr2 : ({ r with F := putR r.F p n } : Rt) = r' at D1 hr'
  have eL : r'.L = r.L := by rw [← hr2]
  have eF : r'.F = putR r.F p n := by rw [← hr2]
  refine ⟨fun q1 k c1 i w' L' => ∃ (j : Nat) (m' : Mem), i = j ∧ j ≤ r'.L.length ∧ k = ((r'.L.take j).filter (fun x => !pastF r'.F p x.id x)).length ∧ Ctx F m w w' L' m' [rtA b r', rwsA (q1, c1) ((r'.L.take j).filter (fun x => !pastF r'.F p x.id x))], fun _ _ _ i _ => (r'.L.length - i).toNat,
    ⟨0, m2, rfl, by omega, rfl, ?_⟩, ?_⟩
  · exact (Ctx.slNil (rtI s (q1, c1) D1)).swap
  clear D D1
  rintro q2 k c2 i w26 L27 _ ⟨j, m3, rfl, hj, rfl, D⟩
  obtain ⟨s2, t2, D⟩ := rtO D
  replace D : Ctx F m w w26 L27 m3 [blk b (r'.cells s2 t2) 82, rwsA s2 r'.L, frsA t2 r'.F, rwsA (q2, c2) ((r'.L.take j).filter (fun x => !pastF r'.F p x.id x))] := D
  have hcell : ∀ {w' L' m'} {As : List Asn}, Ctx F m w w' L' m' (blk b (r'.cells s2 t2) 82 :: As) → w'.cell? ((⟨b, 0, none⟩ : Addr).add 1) = some (slV s2 r'.L.length) ∧ (⟨b, 0, none⟩ : Addr).block ∉ L' := fun D => ⟨by rw [Addr.add_mid]; exact D.blkCell (j := 1) rfl, D.blkAt.2⟩
  have hll' := hr'.ll
  refine ⟨_, _, _, (hcell D).1, (hcell D).2, ?_⟩
  by_cases hjl : j < r'.L.length
  rotate_left
  · rw [if_neg (by simpa using hjl)]
    have hjj : j = r'.L.length := by omega
    rw [hjj, List.take_length] at D
    rw [hjj, List.take_length]
    refine ⟨rfl, D.there _ _ (by simp), D.blkAt.2, ?_⟩
    have D1 := (D.store 1 [slV (q2, c2) (r'.L.filter (fun x => !pastF r'.F p x.id x)).length] (by simp)).pk [0, 3, 2] [1] rfl
    refine Ctr.ret (m' := m3) (L := L27) () rfl trivial ?_
    have eR : ({ r with F := putR r.F p n, L := r.L.filter (fun x => !pastF (putR r.F p n) p x.id x) } : Rt) = { r' with L := r'.L.filter (fun x => !pastF r'.F p x.id x) } := by rw [← hr2]
    rw [eR]
    exact rtI (q2, c2) t2 D1
  rw [if_pos (by simpa using hjl)]
  refine ⟨_, _, _, (hcell D).1, (hcell D).2, by omega, by simpa using hjl, ?_⟩
  obtain ⟨pa, hpa, hc, hcb⟩ := sl_elem rw_len (by decide) (D.pm [1, 0, 2, 3] rfl) hjl
  rw [hpa, onSome_some]
  refine ⟨_, _, _, _, _, _, _, _, _, _, _, _, _, by rw [Int.toNat_natCast]; exact hc, by rw [Int.toNat_natCast]; exact hcb, ?_⟩
  have e : IntKind.wrap .i64 ((j : Int) + 1) = ((j + 1 : Nat) : Int) := by rw [w_i64 (by omega) (by omega)]; omega
  have hm : Nat.le (((r'.L.length : Int) - ((j + 1 : Nat) : Int)).toNat + 1) ((r'.L.length : Int) - (j : Int)).toNat := Nat.le_of_eq (by omega)
  have hft := filter_take (fun x : Rw => !pastF r'.F p x.id x) r'.L j hjl
  have hlt := filter_lt (fun x : Rw => !pastF r'.F p x.id x) r'.L j
  generalize hx : r'.L[j] = x at hft ⊢
  generalize (r'.L.take j).filter (fun x => !pastF r'.F p x.id x) = out at D hft hlt ⊢
  by_cases hpe : (((x.id.n == p.1) && (x.id.l == p.2)) && x.ended) = true
  · rw [if_pos (by
      simp only [Bool.and_eq_true] at hpe
      rw [hpe.1.1, hpe.1.2, hpe.2]; rfl)]
    intro w54 L55 h54 g54
    have D1 : Ctx F m w w54 L55 m3 ([rtA b r'] ++ [rwsA (q2, c2) out]) := rtI s2 t2 (D.hidL h54 g54)
    refine (c_rold b r' x.id hr').call (As := [rwsA (q2, c2) out]) D1 trivial fun _ m4 w57 hk4 hm4 _ D => ⟨_, rfl, hk4, ?_⟩
    have hpf : pastF r'.F p x.id x = oldF r'.F x.id := by rw [pastF, hpe, Bool.true_and]
    cases ho : oldF r'.F x.id with
    | true =>
      rw [if_neg (by simp)]
      rw [hpf, ho, if_neg (by simp), List.append_nil] at hft
      rw [e]
      exact ⟨rfl, ⟨j + 1, m4, rfl, hjl, by rw [hft], by rw [hft]; exact D⟩, hm⟩
    | false =>
      rw [if_pos (by simp)]
      rw [hpf, ho, if_pos (by simp)] at hft
      have D2 := D.alloc x.row 94
      have hcl : Cells _ ⟨w57.heap.size, 0, none⟩ x.row := D2.blkCells (o := 0) fun j v e => by simpa using e
      obtain ⟨q3, c3, w62, hr3, hk3, D3⟩ := app_oneR x (by omega) (D2.pm [2, 0, 1] rfl) hcl
      rw [← hft] at D3 hr3
      refine ⟨q3, _, c3, w62, hr3, hk3, rfl, ?_, ?_⟩
      · rw [e]; exact ⟨j + 1, m4, rfl, hjl, rfl, D3.pk [2, 0] [1] rfl⟩
      · rw [e]; exact hm
  · have hpb : (((x.id.n == p.1) && (x.id.l == p.2)) && x.ended) = false := by simpa using hpe
    have hpf : pastF r'.F p x.id x = false := by rw [pastF, hpb, Bool.false_and]
    rw [if_neg (by
      rw [← Bool.not_and, hpb]; simp)]
    intro w48 L49 h48 g48
    rw [hpf, if_pos (by simp)] at hft
    have D2 := (D.hidL h48 g48).alloc x.row 94
    have hcl : Cells _ ⟨w48.heap.size, 0, none⟩ x.row := D2.blkCells (o := 0) fun j v e => by simpa using e
    obtain ⟨q3, c3, w62, hr3, hk3, D3⟩ := app_oneR x (by omega) (D2.pm [4, 1, 2, 3, 0] rfl) hcl
    rw [← hft] at D3 hr3
    refine ⟨q3, _, c3, w62, hr3, hk3, rfl, ?_, ?_⟩
    · rw [e]
      have D4 : Ctx F m w w62 L49 m3 (rtAs b r' s2 t2 ++ [rwsA (q3, c3) ((r'.L.take (j + 1)).filter (fun x => !pastF r'.F p x.id x))]) := D3.pk [1, 2, 3, 0] [4] rfl
      exact ⟨j + 1, m3, rfl, hjl, rfl, rtI s2 t2 D4⟩
    · rw [e]; exact hm
end Go.Proofs
namespace Go.Proofs
open Go X RowKit
theorem rw_ext {a b : Rw} (h : a.id = b.id ∧ a.ended = b.ended ∧ a.code = b.code ∧ a.val = b.val) : a = b := by cases a; cases b; simp_all
instance : DecidableEq Rw := fun a b => decidable_of_iff (a.id = b.id ∧ a.ended = b.ended ∧ a.code = b.code ∧ a.val = b.val) ⟨rw_ext, fun h => by subst h; exact ⟨rfl, rfl, rfl, rfl⟩⟩
theorem ba_eq (a b : ByteArray) : (a == b) = true ↔ a = b := by
  obtain ⟨a⟩ := a
  obtain ⟨b⟩ := b
  constructor
  · intro h
    have : (a == b) = true := h
    rw [beq_iff_eq.1 this]
  · intro h
    injection h with h; subst h
    show (a == a) = true
    simp
theorem rw_eq (a b : Rw) : ((((a.id.n == b.id.n) && (a.id.l == b.id.l)) && ((a.id.s == b.id.s) && ((a.id.d == b.id.d) && (((a.id.g0 == b.id.g0) && (a.id.i0 == b.id.i0)) && (((a.id.g1 == b.id.g1) && (a.id.i1 == b.id.i1)) && ((a.id.g2 == b.id.g2) && (a.id.i2 == b.id.i2))))))) && ((a.ended == b.ended) && ((a.code == b.code) && (a.val == b.val)))) = decide (a = b) := by
  rw [Bool.eq_iff_iff, decide_eq_true_eq, Bool.and_eq_true, i_eq]
  simp only [Bool.and_eq_true, beq_iff_eq, ba_eq]
  exact ⟨fun h => rw_ext h, fun h => by subst h; exact ⟨rfl, rfl, rfl, rfl⟩⟩
def sameR (r s : Rt) : Bool := decide (r.win = s.win ∧ r.L = s.L ∧ r.F.length = s.F.length ∧ ∀ x ∈ r.F, floorF s.F x.1 = x.2)
theorem sameR_no {r s : Rt} (h : ¬ (r.win = s.win ∧ r.L = s.L ∧ r.F.length = s.F.length ∧ ∀ x ∈ r.F, floorF s.F x.1 = x.2)) : sameR r s = false := by rw [sameR, decide_eq_false_iff_not]; exact h
theorem c_rSame (b b' : Nat) (r s : Rt) (hr : r.Ok) (hs : s.Ok) : Ctr Try.prog 16 #[.pointer (some ⟨b, 0, none⟩), .pointer (some ⟨b', 0, none⟩)] noMem [rtA b r, rtA b' s] (fun _ : Unit => .bool (sameR r s)) (fun _ _ => True) (fun _ => [rtA b r, rtA b' s]) := by
  refine Ctr.mk fun w F m C _ => x_rSame _ _ w _ ?_
  obtain ⟨p, q, C⟩ := rtO C
  obtain ⟨p', q', C⟩ := rtO (C.pm [3, 0, 1, 2] rfl)
  replace C : Ctx F m w w [] m [blk b' (s.cells p' q') 82, rwsA p' s.L, frsA q' s.F, blk b (r.cells p q) 82, rwsA p r.L, frsA q r.F] := C
  have c' : ∀ {w' L' m'}, Ctx F m w w' L' m' [blk b' (s.cells p' q') 82, rwsA p' s.L, frsA q' s.F, blk b (r.cells p q) 82, rwsA p r.L, frsA q r.F] → ∀ {j v}, (s.cells p' q')[j]? = some v → w'.cell? ((⟨b', 0, none⟩ : Addr).add j) = some v := fun {w' L' m'} D {j v} h => by rw [Addr.add_mid, Nat.zero_add]; exact D.blkCell h
  have c : ∀ {w' L' m'}, Ctx F m w w' L' m' [blk b' (s.cells p' q') 82, rwsA p' s.L, frsA q' s.F, blk b (r.cells p q) 82, rwsA p r.L, frsA q r.F] → ∀ {j v}, (r.cells p q)[j]? = some v → w'.cell? ((⟨b, 0, none⟩ : Addr).add j) = some v := fun {w' L' m'} D {j v} h => by
    rw [Addr.add_mid, Nat.zero_add]; exact (D.pm [3, 4, 5, 0, 1, 2] rfl).blkCell h
  have bk : ∀ {w' L' m'}, Ctx F m w w' L' m' [blk b' (s.cells p' q') 82, rwsA p' s.L, frsA q' s.F, blk b (r.cells p q) 82, rwsA p r.L, frsA q r.F] → Ctx F m w w' L' m' [rtA b r, rtA b' s] := fun D => by
    have D1 : Ctx F m w _ _ _ ([rtA b' s] ++ [blk b (r.cells p q) 82, rwsA p r.L, frsA q r.F]) := rtI p' q' D
    have D2 : Ctx F m w _ _ _ (rtAs b r p q ++ [rtA b' s]) := D1.pm [1, 2, 3, 0] rfl
    exact rtI p q D2
  have hll := hr.ll
  have hfl := hr.fl
  refine ⟨r.win, c C (j := 0) rfl, s.win, c' C (j := 0) rfl, ?_⟩
  by_cases hw : r.win = s.win
  rotate_left
  · rw [if_neg (by simpa using hw)]
    intro w3 h3
    exact Ctr.ret () (by rw [sameR_no fun h => hw h.1]) trivial (bk (C.hid0 h3))
  rw [if_pos (by simp [hw])]
  refine ⟨_, _, _, c C (j := 1) rfl, _, _, _, c' C (j := 1) rfl, ?_⟩
  by_cases hl : r.L.length = s.L.length
  rotate_left
  · rw [if_neg (by simp; omega)]
    intro w3 h3
    exact Ctr.ret () (by rw [sameR_no fun h => hl (by rw [h.2.1])]) trivial (bk (C.hid0 h3))
  rw [if_pos (by simp [hl])]
  refine ⟨_, _, _, c C (j := 2) rfl, _, _, _, c' C (j := 2) rfl, ?_⟩
  by_cases hf : r.F.length = s.F.length
  rotate_left
  · rw [if_pos (by simp; omega)]
    intro w3 h3
    exact Ctr.ret () (by rw [sameR_no fun h => hf h.2.2.1]) trivial (bk (C.hid0 h3))
  rw [if_neg (by simp [hf])]
  intro w17 h17
  replace C := C.hid0 h17
  refine ⟨fun i w' _ => ∃ j : Nat, i = j ∧ j ≤ r.L.length ∧ r.L.take j = s.L.take j ∧ Ctx F m w w' [] m [blk b' (s.cells p' q') 82, rwsA p' s.L, frsA q' s.F, blk b (r.cells p q) 82, rwsA p r.L, frsA q r.F], fun i _ => (r.L.length - i).toNat, ⟨0, rfl, by omega, rfl, C⟩, ?_⟩
  clear C h17
  rintro i w21 L22 _ ⟨j, rfl, hj, hjt, D⟩
  refine ⟨_, _, _, c D (j := 1) rfl, ?_⟩
  by_cases hjl : j < r.L.length
  · rw [if_pos (by simpa using hjl)]
    obtain ⟨a1, ha1, hc1, _⟩ := sl_elem rw_len (by decide) (D.pm [4, 0, 1, 2, 3, 5] rfl) hjl
    obtain ⟨a2, ha2, hc2, _⟩ := sl_elem rw_len (by decide) (D.pm [1, 0, 2, 3, 4, 5] rfl) (show j < s.L.length by omega)
    refine ⟨_, _, _, c D (j := 1) rfl, by omega, by simpa using hjl, ?_⟩
    rw [ha1, onSome_some]
    refine ⟨_, _, _, _, _, _, _, _, _, _, _, _, _, by rw [Int.toNat_natCast]; exact hc1, _, _, _, c' D (j := 1) rfl, by omega, by omega, ?_⟩
    rw [ha2, onSome_some]
    refine ⟨_, _, _, _, _, _, _, _, _, _, _, _, _, by rw [Int.toNat_natCast]; exact hc2, ?_⟩
    rw [rw_eq]
    by_cases he : r.L[j] = s.L[j]
    · rw [if_neg (by simp [he])]
      intro w84 h84
      have e : IntKind.wrap .i64 ((j : Int) + 1) = ((j + 1 : Nat) : Int) := by rw [w_i64 (by omega) (by omega)]; omega
      rw [e]
      refine ⟨⟨j + 1, rfl, hjl, ?_, D.hid0 h84⟩, Nat.le_of_eq (by show ((r.L.length : Int) - ((j + 1 : Nat) : Int)).toNat + 1 = ((r.L.length : Int) - (j : Int)).toNat; omega)⟩
      rw [List.take_succ_eq_append_getElem hjl, List.take_succ_eq_append_getElem (by omega : j < s.L.length), hjt, he]
    · rw [if_pos (by simp [he])]
      intro w85 h85
      refine Ctr.ret () ?_ trivial (bk (D.hid0 h85))
      rw [sameR_no fun h => he ?_]
      simp only [h.2.1]
  rw [if_neg (by simpa using hjl)]
  have hLL : r.L = s.L := by
    have h1 : j = r.L.length := by omega
    rw [h1, List.take_length, hl, List.take_length] at hjt
    exact hjt
  clear hjt hjl hj
  refine ⟨fun i w' _ => ∃ (j : Nat) (m' : Mem), i = j ∧ j ≤ r.F.length ∧ (∀ x ∈ r.F.take j, floorF s.F x.1 = x.2) ∧ Ctx F m w w' [] m' [rtA b r, rtA b' s], fun i _ => (r.F.length - i).toNat, ⟨0, m, rfl, by omega, by simp, (bk D).noL⟩, ?_⟩
  clear D c c' bk
  rintro i w29 L30 _ ⟨j, m1, rfl, hj, hjt, D⟩
  obtain ⟨p, q, D⟩ := rtO D
  replace D : Ctx F m w w29 [] m1 [blk b (r.cells p q) 82, rwsA p r.L, frsA q r.F, rtA b' s] := D
  refine ⟨_, _, _, by rw [Addr.add_mid]; exact D.blkCell (j := 2) rfl, ?_⟩
  by_cases hjl : j < r.F.length
  rotate_left
  · rw [if_neg (by simpa using hjl)]
    have h1 : j = r.F.length := by omega
    rw [h1, List.take_length] at hjt
    refine Ctr.ret () ?_ trivial (rtI p q D)
    rw [show sameR r s = true from decide_eq_true ⟨hw, hLL, hf, hjt⟩]
  rw [if_pos (by simpa using hjl)]
  obtain ⟨q1, q2⟩ := q
  obtain ⟨a1, ha1, hc1, _⟩ := sl_elem fr_len (by decide) (D.pm [2, 0, 1, 3] rfl) hjl
  simp only at ha1
  subst ha1
  have h10' : ∀ k v, [Value.int .u8 r.F[j].1.1, .int .u16 r.F[j].1.2][k]? = some v → (r.F.flatMap frow)[j * 3 + k]? = some v := fun k v h => flat_at fr_len _ _ hjl _ _ (by match k, h with | 0, h | 1, h => exact h)
  have h2' : ∀ k v, [Value.int .u32 r.F[j].2][k]? = some v → (r.F.flatMap frow)[j * 3 + 2 + k]? = some v := fun k v h => by
    rw [Nat.add_assoc]; exact flat_at fr_len _ _ hjl _ _ (by match k, h with | 0, h => exact h)
  have hfw : ∀ {w' m'}, Ctx F m w w' [] m' [blk b (r.cells p (some a1, q2)) 82, rwsA p r.L, frsA (some a1, q2) r.F, rtA b' s] → FactsW [(a1.add (j * 3), [.int .u8 r.F[j].1.1, .int .u16 r.F[j].1.2]), (a1.add (j * 3 + 2), [.int .u32 r.F[j].2]), (⟨b, 2, none⟩, [.slice (some a1) r.F.length q2])] w' [] := fun D =>
    (D.pm [2, 0, 1, 3] rfl).slFact (j * 3) _ _ h10' ((D.pm [2, 0, 1, 3] rfl).slFact (j * 3 + 2) _ _ h2' (D.blkFact1 2 _ rfl (facts_nil _ _)))
  refine ⟨_, hfw D, some a1, r.F.length, q2, by simp [Addr.add_mid], by omega, by simpa using hjl, ?_⟩
  rw [onSome_some]
  refine ⟨r.F[j].1.1, r.F[j].1.2, by rw [Int.toNat_natCast, Addr.add_zero']; exact List.mem_cons_self, some a1, r.F.length, q2, by simp [Addr.add_mid], by omega, by simpa using hjl, ?_⟩
  rw [onSome_some]
  refine ⟨r.F[j].2, by rw [Int.toNat_natCast, Addr.add_add]; simp, fun w46 h46 => ?_⟩
  have D1 := (D.hid0 h46).pm [3, 0, 1, 2] rfl
  refine (c_rFloor b' s r.F[j].1 hs).call (As := [_, _, _]) D1 trivial fun _ m2 w48 hk hm _ D2 => ⟨_, rfl, hk.size, ?_⟩
  replace D2 : Ctx F m w w48 [] m2 [blk b (r.cells p (some a1, q2)) 82, rwsA p r.L, frsA (some a1, q2) r.F, rtA b' s] := D2.pm [1, 2, 3, 0] rfl
  refine ⟨hfw D2, ?_⟩
  by_cases he : floorF s.F r.F[j].1 = r.F[j].2
  · rw [if_neg (by simp [he])]
    have e : IntKind.wrap .i64 ((j : Int) + 1) = ((j + 1 : Nat) : Int) := by rw [w_i64 (by omega) (by omega)]; omega
    rw [e]
    refine ⟨⟨j + 1, m2, rfl, hjl, fun x hx => ?_, rtI p (some a1, q2) D2⟩, Nat.le_of_eq (by show ((r.F.length : Int) - ((j + 1 : Nat) : Int)).toNat + 1 = ((r.F.length : Int) - (j : Int)).toNat; omega)⟩
    rw [List.take_succ_eq_append_getElem hjl] at hx
    rcases List.mem_append.1 hx with hx | hx
    · exact hjt x hx
    · simp only [List.mem_singleton] at hx; subst hx; exact he
  · rw [if_pos (by simpa using he)]
    refine Ctr.ret () ?_ trivial (rtI p (some a1, q2) D2)
    rw [sameR_no fun h => he (h.2.2.2 _ (List.getElem_mem hjl))]
end Go.Proofs
namespace Go.Proofs
open Go X RowKit Go.Shelf
set_option maxHeartbeats 1000000 in
theorem q37 (b : Nat) (es : Array MapEntry) (clock : Nat) (w : World) (hb : w.heap[b]? = some (.map es clock)) :
    Calls Try.prog 37 #[.map (some b)] w fun e w' => e = .returned (.map (some w.heap.size)) ∧ w' = w.alloc (.map es clock) := by
  have hq := fun w => run_eql_map_nil_sl (P := Try.prog) w 84 _ _ (some b) t84
  go_enter Try.func37, Try.ntmps37
  go_wp2
  rw [run_callFunc_extern Try.func57 (by kernel_rfl) (by kernel_rfl) (by kernel_rfl) (e := Extern.MapsClone.clone) (by kernel_rfl), run_maps_clone_sl w 84 hb]
  simp only [Result.andThen]
  rw [Oper.upon_value]
  go_wp2
  rw [run_typeAssert_map_sl _ 84 20 _ _ _ t84]
  simp only [Result.andThen]
  rw [Oper.upon_value]
  go_wp2
  go_ret
  exact ⟨rfl, rfl⟩
set_option maxHeartbeats 1000000 in
theorem q38 (b : Nat) (es : Array MapEntry) (clock : Nat) (w : World) (hb : w.heap[b]? = some (.map es clock)) :
    Calls Try.prog 38 #[.map (some b)] w fun e w' => e = .returned (.map (some w.heap.size)) ∧ w' = w.alloc (.map es clock) := by
  have hq := fun w => run_eql_map_nil_sl (P := Try.prog) w 85 _ _ (some b) t85
  go_enter Try.func38, Try.ntmps38
  go_wp2
  rw [run_callFunc_extern Try.func57 (by kernel_rfl) (by kernel_rfl) (by kernel_rfl) (e := Extern.MapsClone.clone) (by kernel_rfl), run_maps_clone_sl w 85 hb]
  simp only [Result.andThen]
  rw [Oper.upon_value]
  go_wp2
  rw [run_typeAssert_map_sl _ 85 20 _ _ _ t85]
  simp only [Result.andThen]
  rw [Oper.upon_value]
  go_wp2
  go_ret
  exact ⟨rfl, rfl⟩
section
variable {α β : Type} [DecidableEq α] {enc : α → Value} {encV : β → Value}
theorem cloneC {k : Nat} (h : ∀ (b : Nat) (es : Array MapEntry) (clock : Nat) (w : World), w.heap[b]? = some (.map es clock) → Calls Try.prog k #[.map (some b)] w fun e w' => e = .returned (.map (some w.heap.size)) ∧ w' = w.alloc (.map es clock)) (b : Nat) (l : List (α × β)) :
    Ctr Try.prog k #[.map (some b)] (fun _ => True) [mapA b enc encV l] (fun b' : Nat => .map (some b')) (fun _ _ => True) (fun b' => [mapA b enc encV l, mapA b' enc encV l]) := by
  refine Ctr.mk fun w F m C _ => ?_
  obtain ⟨es, clock, hb, hm⟩ := C.mapO
  refine (h b es clock w hb).mono fun e w' ⟨he, hw⟩ => ?_
  subst he; subst hw
  exact ⟨w.heap.size, m, [], rfl, trivial, (C.newO (A := mapA w.heap.size enc encV l) _ ⟨rfl, es, clock, heap_alloc_new w _, hm⟩).swap⟩
end
theorem c_Clone (b : Nat) (t : Tb) : Ctr Try.prog 12 #[.pointer (some ⟨b, 0, none⟩)] noMem [tbA b t] (fun b' : Nat => .pointer (some ⟨b', 0, none⟩)) (fun _ _ => True) (fun b' => [tbA b t, tbA b' t]) := by
  refine Ctr.mk fun w F m C _ => x_amo_Table_Clone _ w _ ?_
  refine (c_none b t).call (As := []) C trivial fun _ m2 w2 hk hm _ C => ⟨_, rfl, hk.size, ?_⟩
  rw [if_neg (by decide)]
  obtain ⟨mr, mf, C⟩ := tbO C
  have hf : ∀ {w' L' m'} {As' : List Asn}, Ctx F m w w' L' m' (tbB b t.win mr mf :: As') → FactsW [(⟨b, 0, none⟩, [.int .u32 t.win]), (⟨b, 1, none⟩, [.map (some mr)]), (⟨b, 2, none⟩, [.map (some mf)])] w' L' := fun C => C.blkFact1 0 _ rfl (C.blkFact1 1 _ rfl (C.blkFact1 2 _ rfl (facts_nil _ _)))
  refine ⟨_, hf C.noL, t.win, by simp [Addr.add_mid], some mr, by simp [Addr.add_mid], some mf, by simp [Addr.add_mid], fun w8 h8 => ?_⟩
  replace C := (C.hid0 h8).pm [1, 0, 2] rfl
  refine (cloneC (enc := I.V) (encV := Rw.V) q37 mr t.R).call (As := [tbB b t.win mr mf, flA mf t.Fl]) C trivial fun mr' m3 w10 hk hm _ C => ⟨_, rfl, hk.size, ?_⟩
  replace C := C.pm [2, 0, 1, 3] rfl
  refine ⟨hf C.noL, ?_⟩
  refine (cloneC (enc := pkV) (encV := nV) q38 mf t.Fl).call (As := [tbB b t.win mr mf, rwA mr t.R, rwA mr' t.R]) (C.pm [3, 0, 1, 2] rfl) trivial fun mf' m4 w13 hk hm _ C => ⟨_, rfl, hk.size, ?_⟩
  replace C := C.pm [2, 3, 0, 4, 1] rfl
  refine ⟨hf C.noL, ?_⟩
  have C2 := C.alloc [.int .u32 t.win, .map (some mr'), .map (some mf')] 87
  refine ⟨hf (C2.pm [1, 2, 3, 4, 5, 0] rfl).noL, ?_⟩
  refine Ctr.ret (m' := m4) (L := []) w13.heap.size rfl trivial ?_
  have C3 : Ctx F m w _ [] m4 (tbAs b t mr mf ++ tbAs w13.heap.size t mr' mf') := (C2.pm [1, 2, 3, 0, 4, 5] rfl).noL
  have C4 := tbI mr mf C3
  exact (tbI mr' mf' (C4.pm [1, 2, 3, 0] rfl)).swap
end Go.Proofs
namespace Go.Proofs
open Go X RowKit
def eqMap {α β : Type} [DecidableEq α] [DecidableEq β] (l1 l2 : List (α × β)) : Bool := decide (l1.length = l2.length ∧ ∀ x ∈ l1, fnd x.1 l2 = some x.2)
theorem eqMap_no {α β : Type} [DecidableEq α] [DecidableEq β] {l1 l2 : List (α × β)} (h : ¬ (l1.length = l2.length ∧ ∀ x ∈ l1, fnd x.1 l2 = some x.2)) : eqMap l1 l2 = false := by rw [eqMap, decide_eq_false_iff_not]; exact h
theorem c_EqR (a b : Nat) (l1 l2 : List (I × Rw)) : Ctr Try.prog 39 #[.map (some a), .map (some b)] noMem [rwA a l1, rwA b l2] (fun _ : Unit => .bool (eqMap l1 l2)) (fun _ _ => True) (fun _ => [rwA a l1, rwA b l2]) := by
  refine Ctr.mk fun w F m C _ => x_EqR _ _ w _ ⟨_, w, Ctx.mlen (P := Try.prog) (ty := 3) t84 C, Nat.le_refl _, _, w, Ctx.mlen (P := Try.prog) (ty := 3) t84 C.swap, Nat.le_refl _, ?_⟩
  by_cases hl : l1.length = l2.length
  rotate_left
  · rw [if_pos (by simp; omega)]
    exact Ctr.ret () (by rw [eqMap_no fun h => hl h.1]) trivial C
  rw [if_neg (by simp [hl])]
  obtain ⟨zs, clock, hzs, hnd, C⟩ := C.mapZI
  obtain ⟨hr, hk, C1⟩ := C.mrange (P := Try.prog) t84
  refine ⟨_, _, hr, hk.size, ?_⟩
  generalize hit : w.heap.size = it at C1 ⊢
  refine ⟨fun w' L' => ∃ (seen : Array Nat) (last : Nat) (m' : Mem), clock ≤ last ∧ seen.toList.Nodup ∧ (∀ s ∈ seen.toList, s ∈ zs.map Prod.snd) ∧ (∀ z ∈ zs, z.2 ∈ seen → fnd z.1.1 l2 = some z.1.2) ∧
    Ctx F m w w' [] m' [iterA it a clock seen last, mapZ a I.V Rw.V zs clock, rwA b l2], fun w' => zs.length + 1 - seenN w' it,
    ⟨#[], clock, m, Nat.le_refl _, by simp, by simp, by simp, C1⟩, ?_⟩
  clear C1 hr hk C
  rintro w9 L10 _ ⟨seen, last, m', hlast, hn, hin, hgood, D⟩
  have hsz0 := seenN_obj D.objAt.1
  rcases Ctx.mnext (P := Try.prog) 0 rfl hlast D with ⟨hall, hnx⟩ | ⟨i, hi, w13, hns, hnx, hk9, D9⟩
  · refine ⟨false, [], w9, hnx, Nat.le_refl _, ?_⟩
    rw [if_neg (by decide)]
    have D2 := D.drop.mapZA
    rw [hzs] at D2
    refine Ctr.ret (m' := m') (L := []) () ?_ trivial D2
    rw [show eqMap l1 l2 = true from decide_eq_true ⟨hl, fun x hx => ?_⟩]
    rw [← hzs] at hx
    obtain ⟨z, hz, rfl⟩ := List.mem_map.1 hx
    exact hgood z hz (hall z hz)
  · refine ⟨true, [_, _], w13, hnx, hk9.size, ?_⟩
    rw [if_pos rfl]
    have hent := Ctx.mentry (P := Try.prog) hi D9
    refine ⟨_, _, _, _, _, _, _, _, _, _, _, _, _, _, _, _, _, _, _, _, _, _, _, w13, hent, Nat.le_refl _, fun w38 L39 h38 g38 => ?_⟩
    have D10 := D9.hidL h38 (by rw [hit]; exact g38)
    have hlk := look_rw (D10.pm [2, 0, 1] rfl) zs[i].1.1
    refine ⟨_, _, _, _, _, _, _, _, _, _, _, _, _, _, w38, hlk, kept_refl _ _, ?_⟩
    have hin2 : zs[i] ∈ zs := List.getElem_mem hi
    have hxm : zs[i].1 ∈ l1 := by rw [← hzs]; exact List.mem_map.2 ⟨_, hin2, rfl⟩
    rw [rw_eq]
    by_cases hg : fnd zs[i].1.1 l2 = some zs[i].1.2
    · rw [if_neg (by rw [hg]; simp)]
      intro w55 L56 h55 g55
      have hn2 : (seen.push zs[i].2).toList.Nodup := by
        rw [Array.toList_push]
        refine List.nodup_append.2 ⟨hn, by simp, ?_⟩
        intro x hx c hc
        simp only [List.mem_singleton] at hc
        subst hc
        intro e; subst e
        exact hns (by simpa using hx)
      have hin3 : ∀ s ∈ (seen.push zs[i].2).toList, s ∈ zs.map Prod.snd := by
        intro s hs
        rw [Array.toList_push] at hs
        rcases List.mem_append.1 hs with hs | hs
        · exact hin s hs
        · simp only [List.mem_singleton] at hs; subst hs; exact List.mem_map.2 ⟨_, hin2, rfl⟩
      have hcount := nodup_le _ _ hn2 hin3
      have hc2 : seen.size + 1 ≤ zs.length := by simpa using hcount
      have D11 := D10.hidL h55 (by rw [hit]; exact g55)
      refine ⟨⟨_, clock, m', Nat.le_refl _, hn2, hin3, fun z hz hs => ?_, Ctx.noL D11⟩, ?_⟩
      · rw [Array.mem_push] at hs
        rcases hs with hs | hs
        · exact hgood z hz hs
        · have : z = zs[i] := nodup_get hnd hz hin2 hs
          rw [this]; exact hg
      · show Nat.le (zs.length + 1 - seenN w55 it + 1) (zs.length + 1 - seenN w9 it)
        rw [seenN_obj D11.objAt.1, hsz0, Array.size_push]; exact Nat.le_of_eq (by omega)
    · rw [if_pos (by
        cases hfd : fnd zs[i].1.1 l2 with
        | none => simp
        | some r =>
          rw [hfd] at hg
          have : ¬ zs[i].1.2 = r := fun e => hg (by rw [e])
          simp [this])]
      intro w57 h57
      have D2 := (D10.hid0 h57).drop.mapZA
      rw [hzs] at D2
      refine Ctr.ret (m' := m') (L := []) () ?_ trivial D2
      rw [eqMap_no fun h => hg (h.2 _ hxm)]
theorem look_fl2 {F0 : List Nat} {m0 : Mem} {w0 w : World} {L : List Nat} {m : Mem} {As : List Asn} {mf : Nat} {Fl : List Fr} (C : Ctx F0 m0 w0 w L m (flA mf Fl :: As)) (p : Int × Int) : (Instr.lookup 85 (.map (some mf)) (pkV p) true).run Try.prog w = .ok (.tuple #[nV ((fnd p Fl).getD 0), .bool (fnd p Fl).isSome]) w := by
  obtain ⟨i, hi, hz⟩ := Option.bind_eq_some_iff.1 z32
  have := Ctx.mlook (P := Try.prog) t85 key50 hi hz C p true
  rw [this]
  cases fnd p Fl <;> rfl
theorem c_EqF (a b : Nat) (l1 l2 : List Fr) : Ctr Try.prog 40 #[.map (some a), .map (some b)] noMem [flA a l1, flA b l2] (fun _ : Unit => .bool (eqMap l1 l2)) (fun _ _ => True) (fun _ => [flA a l1, flA b l2]) := by
  refine Ctr.mk fun w F m C _ => x_EqF _ _ w _ ⟨_, w, Ctx.mlen (P := Try.prog) (ty := 3) t85 C, Nat.le_refl _, _, w, Ctx.mlen (P := Try.prog) (ty := 3) t85 C.swap, Nat.le_refl _, ?_⟩
  by_cases hl : l1.length = l2.length
  rotate_left
  · rw [if_pos (by simp; omega)]
    exact Ctr.ret () (by rw [eqMap_no fun h => hl h.1]) trivial C
  rw [if_neg (by simp [hl])]
  obtain ⟨zs, clock, hzs, hnd, C⟩ := C.mapZI
  obtain ⟨hr, hk, C1⟩ := C.mrange (P := Try.prog) t85
  refine ⟨_, _, hr, hk.size, ?_⟩
  generalize hit : w.heap.size = it at C1 ⊢
  refine ⟨fun w' L' => ∃ (seen : Array Nat) (last : Nat) (m' : Mem), clock ≤ last ∧ seen.toList.Nodup ∧ (∀ s ∈ seen.toList, s ∈ zs.map Prod.snd) ∧ (∀ z ∈ zs, z.2 ∈ seen → fnd z.1.1 l2 = some z.1.2) ∧
    Ctx F m w w' [] m' [iterA it a clock seen last, mapZ a pkV nV zs clock, flA b l2], fun w' => zs.length + 1 - seenN w' it,
    ⟨#[], clock, m, Nat.le_refl _, by simp, by simp, by simp, C1⟩, ?_⟩
  clear C1 hr hk C
  rintro w9 L10 _ ⟨seen, last, m', hlast, hn, hin, hgood, D⟩
  have hsz0 := seenN_obj D.objAt.1
  rcases Ctx.mnext (P := Try.prog) 0 rfl hlast D with ⟨hall, hnx⟩ | ⟨i, hi, w13, hns, hnx, hk9, D9⟩
  · refine ⟨false, [], w9, hnx, Nat.le_refl _, ?_⟩
    rw [if_neg (by decide)]
    have D2 := D.drop.mapZA
    rw [hzs] at D2
    refine Ctr.ret (m' := m') (L := []) () ?_ trivial D2
    rw [show eqMap l1 l2 = true from decide_eq_true ⟨hl, fun x hx => ?_⟩]
    rw [← hzs] at hx
    obtain ⟨z, hz, rfl⟩ := List.mem_map.1 hx
    exact hgood z hz (hall z hz)
  · refine ⟨true, [_, _], w13, hnx, hk9.size, ?_⟩
    rw [if_pos rfl]
    have hent := Ctx.mentry (P := Try.prog) hi D9
    refine ⟨_, _, _, w13, hent, Nat.le_refl _, fun w38 L39 h38 g38 => ?_⟩
    have D10 := D9.hidL h38 (by rw [hit]; exact g38)
    have hlk := look_fl2 (D10.pm [2, 0, 1] rfl) zs[i].1.1
    refine ⟨_, _, w38, hlk, kept_refl _ _, ?_⟩
    have hin2 : zs[i] ∈ zs := List.getElem_mem hi
    have hxm : zs[i].1 ∈ l1 := by rw [← hzs]; exact List.mem_map.2 ⟨_, hin2, rfl⟩
    by_cases hg : fnd zs[i].1.1 l2 = some zs[i].1.2
    · rw [if_neg (by rw [hg]; simp)]
      have hn2 : (seen.push zs[i].2).toList.Nodup := by
        rw [Array.toList_push]
        refine List.nodup_append.2 ⟨hn, by simp, ?_⟩
        intro x hx c hc
        simp only [List.mem_singleton] at hc
        subst hc
        intro e; subst e
        exact hns (by simpa using hx)
      have hin3 : ∀ s ∈ (seen.push zs[i].2).toList, s ∈ zs.map Prod.snd := by
        intro s hs
        rw [Array.toList_push] at hs
        rcases List.mem_append.1 hs with hs | hs
        · exact hin s hs
        · simp only [List.mem_singleton] at hs; subst hs; exact List.mem_map.2 ⟨_, hin2, rfl⟩
      have hcount := nodup_le _ _ hn2 hin3
      have hc2 : seen.size + 1 ≤ zs.length := by simpa using hcount
      have D11 := D10
      refine ⟨⟨_, clock, m', Nat.le_refl _, hn2, hin3, fun z hz hs => ?_, Ctx.noL D11⟩, ?_⟩
      · rw [Array.mem_push] at hs
        rcases hs with hs | hs
        · exact hgood z hz hs
        · have : z = zs[i] := nodup_get hnd hz hin2 hs
          rw [this]; exact hg
      · show Nat.le (zs.length + 1 - seenN w38 it + 1) (zs.length + 1 - seenN w9 it)
        rw [seenN_obj D11.objAt.1, hsz0, Array.size_push]; exact Nat.le_of_eq (by omega)
    · rw [if_pos (by
        cases hfd : fnd zs[i].1.1 l2 with
        | none => simp
        | some r =>
          rw [hfd] at hg
          have : ¬ zs[i].1.2 = r := fun e => hg (by rw [e])
          simp [this])]
      have D2 := D10.drop.mapZA
      rw [hzs] at D2
      refine Ctr.ret (m' := m') (L := []) () ?_ trivial D2.noL
      rw [eqMap_no fun h => hg (h.2 _ hxm)]
theorem c_Same (b b' : Nat) (t u : Tb) : Ctr Try.prog 13 #[.pointer (some ⟨b, 0, none⟩), .pointer (some ⟨b', 0, none⟩)] noMem [tbA b t, tbA b' u] (fun _ : Unit => .bool (decide (t.win = u.win) && eqMap t.R u.R && eqMap t.Fl u.Fl)) (fun _ _ => True) (fun _ => [tbA b t, tbA b' u]) := by
  refine Ctr.mk fun w F m C _ => x_amo_Table_Same _ _ w _ ?_
  refine (c_none b t).call (As := [tbA b' u]) C trivial fun _ m2 w2 hk hm _ C => ⟨_, rfl, hk.size, ?_⟩
  rw [if_pos (by decide)]
  refine (c_none b' u).call (As := [tbA b t]) C.swap trivial fun _ m3 w11 hk hm _ C => ⟨_, rfl, hk.size, ?_⟩
  rw [if_neg (by decide)]
  obtain ⟨mr', mf', C⟩ := tbO C
  obtain ⟨mr, mf, C⟩ := tbO (C.pm [3, 0, 1, 2] rfl)
  replace C : Ctx F m w w11 [] m3 [tbB b t.win mr mf, rwA mr t.R, flA mf t.Fl, tbB b' u.win mr' mf', rwA mr' u.R, flA mf' u.Fl] := C.noL
  have hf : ∀ {w' m'} {As' : List Asn}, Ctx F m w w' [] m' (tbB b t.win mr mf :: tbB b' u.win mr' mf' :: As') → FactsW [(⟨b, 0, none⟩, [.int .u32 t.win]), (⟨b, 1, none⟩, [.map (some mr)]), (⟨b, 2, none⟩, [.map (some mf)]), (⟨b', 0, none⟩, [.int .u32 u.win]), (⟨b', 1, none⟩, [.map (some mr')]), (⟨b', 2, none⟩, [.map (some mf')])] w' [] := fun C => C.blkFact1 0 _ rfl (C.blkFact1 1 _ rfl (C.blkFact1 2 _ rfl (C.swap.blkFact1 0 _ rfl (C.swap.blkFact1 1 _ rfl (C.swap.blkFact1 2 _ rfl (facts_nil _ _))))))
  have bk : ∀ {w' m'}, Ctx F m w w' [] m' [tbB b t.win mr mf, tbB b' u.win mr' mf', rwA mr t.R, rwA mr' u.R, flA mf t.Fl, flA mf' u.Fl] → Ctx F m w w' [] m' [tbA b t, tbA b' u] := fun D => by
    have D1 : Ctx F m w _ _ _ (tbAs b' u mr' mf' ++ tbAs b t mr mf) := D.pm [1, 3, 5, 0, 2, 4] rfl
    have D2 := tbI mr' mf' D1
    exact tbI mr mf (D2.pm [1, 2, 3, 0] rfl)
  replace C := C.pm [0, 3, 1, 4, 2, 5] rfl
  refine ⟨_, hf C, t.win, by simp [Addr.add_mid], u.win, by simp [Addr.add_mid], ?_⟩
  by_cases hw : t.win = u.win
  rotate_left
  · rw [if_neg (by simpa using hw)]
    exact ⟨_, hf C, fun _ h => h, fun w18 h18 => Ctr.ret () (by simp [hw]) trivial (bk (C.hid0 h18))⟩
  rw [if_pos (by simp [hw])]
  refine ⟨some mr, by simp [Addr.add_mid], some mr', by simp [Addr.add_mid], fun w21 h21 => ?_⟩
  replace C := C.hid0 h21
  refine (c_EqR mr mr' t.R u.R).call (As := [tbB b t.win mr mf, tbB b' u.win mr' mf', flA mf t.Fl, flA mf' u.Fl]) (C.pm [2, 3, 0, 1, 4, 5] rfl) trivial fun _ m4 w23 hk hm _ C => ⟨_, rfl, hk.size, ?_⟩
  replace C := (C.pm [2, 3, 0, 1, 4, 5] rfl).noL
  refine ⟨hf C, _, hf C, fun _ h => h, ?_⟩
  cases hR : eqMap t.R u.R with
  | false =>
    rw [if_neg (by simp)]
    exact Ctr.ret () (by simp [hw, hR]) trivial (bk C)
  | true =>
    rw [if_pos (by simp)]
    refine ⟨some mf, by simp [Addr.add_mid], some mf', by simp [Addr.add_mid], ?_⟩
    refine (c_EqF mf mf' t.Fl u.Fl).call (As := [tbB b t.win mr mf, tbB b' u.win mr' mf', rwA mr t.R, rwA mr' u.R]) (C.pm [4, 5, 0, 1, 2, 3] rfl) trivial fun _ m5 w30 hk hm _ C => ⟨_, rfl, hk.size, ?_⟩
    replace C := (C.pm [2, 3, 4, 5, 0, 1] rfl).noL
    refine ⟨hf C, ?_⟩
    exact Ctr.ret () (by simp [hw, hR]) trivial (bk C)
end Go.Proofs
namespace Go.Proofs
open Go X RowKit
theorem nodup_of_keys {α β : Type} {l : List (α × β)} (h : (l.map (·.1)).Nodup) : l.Nodup := List.Pairwise.of_map (·.1) (fun a b h e => h (by rw [e])) h
section
variable {α β : Type} [DecidableEq α]
theorem mem_fnd' {x : α} {v : β} : ∀ {l : List (α × β)}, (l.map (·.1)).Nodup → (x, v) ∈ l → fnd x l = some v
  | (k, u) :: l, hn, h => by
    simp only [List.map_cons, List.nodup_cons] at hn
    rw [fnd]
    rcases List.mem_cons.1 h with e | h2
    · injection e with e1 e2; subst e1; subst e2; rw [if_pos rfl]
    · by_cases hx : x = k
      · subst hx; exact absurd (List.mem_map.2 ⟨_, h2, rfl⟩) hn.1
      · rw [if_neg hx]; exact mem_fnd' hn.2 h2
theorem fnd_perm {l l' : List (α × β)} (h : l.Perm l') (hn : (l.map (·.1)).Nodup) (x : α) : fnd x l = fnd x l' := by
  have hn' : (l'.map (·.1)).Nodup := (h.map _).nodup_iff.1 hn
  cases hf : fnd x l with
  | some v => exact (mem_fnd' hn' (h.mem_iff.1 (fnd_mem hf))).symm
  | none =>
    cases hf' : fnd x l' with
    | none => rfl
    | some v => rw [mem_fnd' hn (h.mem_iff.2 (fnd_mem hf'))] at hf; cases hf
theorem mdel_filter {x : α} : ∀ {l : List (α × β)}, (l.map (·.1)).Nodup → X.mdel x l = l.filter (fun y => !decide (y.1 = x))
  | [], _ => rfl
  | (k, u) :: l, hn => by
    simp only [List.map_cons, List.nodup_cons] at hn
    rw [X.mdel]
    by_cases hx : x = k
    · subst hx
      rw [if_pos rfl, List.filter_cons_of_neg (by simp)]
      symm
      refine List.filter_eq_self.2 fun y hy => ?_
      have : ¬ y.1 = x := fun e => hn.1 (e ▸ List.mem_map.2 ⟨y, hy, rfl⟩)
      simpa using this
    · rw [if_neg hx, List.filter_cons_of_pos (by simpa using Ne.symm hx), mdel_filter hn.2]
theorem mput_perm {x : α} {v : β} : ∀ {l : List (α × β)}, (X.mput x v l).Perm ((x, v) :: X.mdel x l)
  | [] => .refl _
  | (k, u) :: l => by
    rw [X.mput, X.mdel]
    by_cases hx : x = k
    · subst hx; rw [if_pos rfl, if_pos rfl]
    · rw [if_neg hx, if_neg hx]
      exact (mput_perm.cons _).trans (.swap ..)
theorem mdel_perm {x : α} {v : β} : ∀ {l : List (α × β)}, (x, v) ∈ l → (l.map (·.1)).Nodup → l.Perm ((x, v) :: X.mdel x l)
  | (k, u) :: l, h, hn => by
    simp only [List.map_cons, List.nodup_cons] at hn
    rw [X.mdel]
    rcases List.mem_cons.1 h with e | h2
    · injection e with e1 e2; subst e1; subst e2; rw [if_pos rfl]
    · by_cases hx : x = k
      · subst hx; exact absurd (List.mem_map.2 ⟨_, h2, rfl⟩) hn.1
      · rw [if_neg hx]
        exact ((mdel_perm h2 hn.2).cons _).trans (.swap ..)
theorem sub_perm [DecidableEq β] : ∀ {l l' : List (α × β)}, l.Nodup → (∀ x ∈ l, x ∈ l') → l.length = l'.length → l.Perm l'
  | [], l', _, _, h => by
    have : l' = [] := List.eq_nil_of_length_eq_zero h.symm
    subst this; exact .refl _
  | a :: l, l', hn, hs, h => by
    have hn' := List.nodup_cons.1 hn
    have ha := hs a List.mem_cons_self
    have h1 : l.Perm (l'.erase a) := sub_perm hn'.2 (fun x hx => (List.mem_erase_of_ne (fun (e : x = a) => hn'.1 (e ▸ hx))).2 (hs x (List.mem_cons_of_mem _ hx))) (by
      have := List.length_erase_of_mem ha
      simp only [List.length_cons] at h; omega)
    exact (h1.cons a).trans (List.perm_cons_erase ha).symm
end
end Go.Proofs
namespace Go.Proofs
open Go X RowKit
section
variable {α β : Type} [DecidableEq α]
theorem eqMap_perm [DecidableEq β] {l l' : List (α × β)} (hn : (l.map (·.1)).Nodup) (hn' : (l'.map (·.1)).Nodup) : eqMap l l' = true ↔ l.Perm l' := by
  rw [eqMap, decide_eq_true_eq]
  constructor
  · rintro ⟨h1, h2⟩
    exact sub_perm (nodup_of_keys hn) (fun x hx => fnd_mem (h2 x hx)) h1
  · intro h
    exact ⟨h.length_eq, fun x hx => mem_fnd' hn' (h.mem_iff.1 hx)⟩
end
theorem fK_lt {d : I} : ∀ (l : List Rw) (i : Nat) (hi : i < l.length), i < fK l d → l[i].id.num < d.num
  | x :: l, 0, _, h => by
    unfold fK at h
    split at h
    · assumption
    · omega
  | x :: l, i + 1, hi, h => by
    unfold fK at h
    split at h
    · exact fK_lt l i (by simpa using hi) (by omega)
    · omega
theorem fK_ge {d : I} : ∀ (l : List Rw) (h : fK l d < l.length), ¬ l[fK l d].id.num < d.num
  | x :: l, h => by
    by_cases hx : x.id.num < d.num
    · have e : fK (x :: l) d = fK l d + 1 := by rw [fK, if_pos hx]
      have := fK_ge l (by rw [e] at h; simpa using h)
      simp only [e, List.getElem_cons_succ]; exact this
    · have e : fK (x :: l) d = 0 := by rw [fK, if_neg hx]
      simp only [e, List.getElem_cons_zero]; exact hx
def kv (x : Rw) : I × Rw := (x.id, x)
structure Rel (t : Tb) (r : Rt) : Prop where
  win : t.win = r.win
  R : t.R.Perm (r.L.map kv)
  nd : (t.R.map (·.1)).Nodup
  F : t.Fl.Perm r.F
  nf : (t.Fl.map (·.1)).Nodup
  srt : r.L.Pairwise (fun x y => x.id.num < y.id.num)
  fpos : ∀ x ∈ r.F, 0 < x.2 ∧ x.2 ≤ 1048576
  idin : ∀ x ∈ r.L, x.id.In
section
variable {t u : Tb} {r s : Rt}
theorem Rel.floor (h : Rel t r) (p : Int × Int) : floorF t.Fl p = floorF r.F p := by rw [floorF, floorF, fnd_perm h.F h.nf]
theorem Rel.old (h : Rel t r) (d : I) : oldF t.Fl d = oldF r.F d := by rw [oldF, oldF, h.floor]
theorem Rel.find (h : Rel t r) {d : I} : fnd d t.R = rfnd r.L d := by
  cases hf : rfnd r.L d with
  | some x =>
    obtain ⟨hk, e1, e2⟩ := rfnd_some hf
    refine mem_fnd' h.nd (h.R.mem_iff.2 (List.mem_map.2 ⟨x, ?_, by rw [kv, e2]⟩))
    rw [← e1]; exact List.getElem_mem hk
  | none =>
    cases hn : fnd d t.R with
    | none => rfl
    | some y =>
      obtain ⟨x, hx, e⟩ := List.mem_map.1 (h.R.mem_iff.1 (fnd_mem hn))
      obtain ⟨j, hj, rfl⟩ := List.mem_iff_getElem.1 hx
      have e1 : r.L[j].id = d := by rw [kv] at e; injection e
      have hk : fK r.L d = j := fK_eq _ _ (by omega) (fun i hi hij => by
        have := List.pairwise_iff_getElem.1 h.srt i j hi hj hij
        rw [e1] at this; exact this) (fun _ => by rw [e1]; omega)
      rw [rfnd, hk, List.getElem?_eq_getElem hj] at hf
      simp only [e1, if_true] at hf
      cases hf
theorem Rel.state (h : Rel t r) {d : I} (hd : d.In) : stateF t d = stateR r d := by
  rw [stateF, stateR, h.find]
  cases hf : rfnd r.L d with
  | some x => rfl
  | none =>
    simp only
    rw [h.old, h.floor, h.win]
    by_cases ho : oldF r.F d = true
    · rw [if_pos ho, if_pos ho]
    · rw [if_neg ho, if_neg ho]
      by_cases h0 : d.d = 0
      · have hs := hd.s
        have hfl : 0 ≤ floorF r.F (d.n, d.l) := by
          rw [floorF]
          cases hq : fnd (d.n, d.l) r.F with
          | none => simp
          | some v => have := (h.fpos _ (fnd_mem hq)).1; simp only [Option.getD_some]; simp only at this; omega
        have hgt : d.s > floorF r.F (d.n, d.l) := by
          have : oldF r.F d = false := by simpa using ho
          rw [oldF, h0] at this
          simp only [beq_self_eq_true, Bool.true_and, decide_eq_false_iff_not] at this
          omega
        rw [w_u32 (n := d.s - floorF r.F (d.n, d.l)) (by omega) (by omega)]
      · have : (d.d == 0) = false := by simpa using h0
        rw [this, Bool.false_and, Bool.false_and]
end
end Go.Proofs
namespace Go.Proofs
open Go X RowKit
def playR (r : Rt) (a : Ac) : Rt :=
  if a.kd = 0 ∨ a.kd = 1 ∨ a.kd = 2 then (beginR r a.d).2
  else if a.kd = 3 ∨ a.kd = 4 then (endR r a.d a.c a.v).2
  else if a.kd = 5 then raiseR r (a.d.n, a.d.l) a.nn
  else r
theorem kv_eq : (fun x : Rw => x.id) = (fun y : I × Rw => y.1) ∘ kv := rfl
section
variable {t u : Tb} {r s : Rt}
theorem Rel.begin (h : Rel t r) {d : I} (hd : d.In) : (beginF t d).1 = (beginR r d).1 ∧ Rel (beginF t d).2 (beginR r d).2 ∧ (beginR r d).2.L.length ≤ r.L.length + 1 ∧ (beginR r d).2.F = r.F := by
  rw [beginF, beginR, h.state hd]
  by_cases hr : d.right = true
  rotate_left
  · rw [if_neg hr, if_neg hr]; exact ⟨rfl, h, by simp, rfl⟩
  rw [if_pos hr, if_pos hr]
  have hst : stateR r d = 0 ∨ stateR r d = 1 ∨ stateR r d = 2 ∨ stateR r d = 3 ∨ stateR r d = 4 := by
    unfold stateR; split
    · split <;> simp
    · split <;> (try split) <;> simp
  rcases hst with h0 | h0 | h0 | h0 | h0
  · rw [if_neg (by omega), if_neg (by omega), if_pos h0, if_neg (by omega), if_neg (by omega), if_neg (by omega)]
    have h0' := h.state hd
    rw [h0] at h0'
    obtain ⟨hf, ho⟩ := state_zero h0'
    have hk := hf
    rw [h.find] at hk
    have hout := fnd_none.1 hf
    have hkl := fK_le r.L d
    have hne : ∀ x ∈ r.L, x.id ≠ d := fun x hx e => hout (by
      have := h.R.mem_iff.2 (List.mem_map.2 ⟨x, hx, rfl⟩)
      rw [kv, e] at this
      exact List.mem_map.2 ⟨_, this, rfl⟩)
    have hlt : ∀ x ∈ r.L.take (fK r.L d), x.id.num < d.num := fun x hx => by
      obtain ⟨i, hi, rfl⟩ := List.mem_iff_getElem.1 hx
      rw [List.length_take] at hi
      rw [List.getElem_take]
      exact fK_lt r.L i (by omega) (by omega)
    have hgt : ∀ x ∈ r.L.drop (fK r.L d), d.num < x.id.num := fun x hx => by
      obtain ⟨i, hi, rfl⟩ := List.mem_iff_getElem.1 hx
      rw [List.length_drop] at hi
      rw [List.getElem_drop]
      have hkk : fK r.L d < r.L.length := by omega
      have h1 := fK_ge r.L hkk
      have h2 : r.L[fK r.L d].id.num ≠ d.num := fun e => hne _ (List.getElem_mem hkk) (num_inj (h.idin _ (List.getElem_mem hkk)) hd e)
      by_cases hi0 : i = 0
      · subst hi0; simp only [Nat.add_zero]; omega
      · have := List.pairwise_iff_getElem.1 h.srt (fK r.L d) (fK r.L d + i) hkk (by omega) (by omega)
        omega
    have hsp : (r.L.take (fK r.L d) ++ r.L.drop (fK r.L d)).Pairwise (fun x y => x.id.num < y.id.num) := by rw [List.take_append_drop]; exact h.srt
    have hsp' := List.pairwise_append.1 hsp
    refine ⟨rfl, ⟨h.win, ?_, mput_nodup h.nd, h.F, h.nf, ?_, h.fpos, ?_⟩, ?_, rfl⟩
    · simp only [insR, List.map_append]
      rw [mput_out hout]
      have e : r.L.map kv = (r.L.take (fK r.L d)).map kv ++ (r.L.drop (fK r.L d)).map kv := by rw [← List.map_append, List.take_append_drop]
      have h1 := h.R
      rw [e] at h1
      refine (h1.append_right _).trans ?_
      rw [List.append_assoc, List.append_assoc]
      exact List.Perm.append_left _ List.perm_append_comm
    · simp only [insR]
      refine List.pairwise_append.2 ⟨List.pairwise_append.2 ⟨hsp'.1, by simp, fun x hx y hy => ?_⟩, hsp'.2.1, fun x hx y hy => ?_⟩
      · simp only [List.mem_singleton] at hy; subst hy; exact hlt x hx
      · rcases List.mem_append.1 hx with hx | hx
        · exact hsp'.2.2 x hx y hy
        · simp only [List.mem_singleton] at hx; subst hx; exact hgt y hy
    · intro x hx
      simp only [insR] at hx
      rcases List.mem_append.1 hx with hx | hx
      · rcases List.mem_append.1 hx with hx | hx
        · exact h.idin x (List.mem_of_mem_take hx)
        · simp only [List.mem_singleton] at hx; subst hx; exact hd
      · exact h.idin x (List.mem_of_mem_drop hx)
    · simp only [insR, List.length_append, List.length_take, List.length_drop, List.length_singleton]; omega
  · rw [if_neg (by omega), if_neg (by omega), if_neg (by omega), if_pos (by omega)]; exact ⟨rfl, h, by simp, rfl⟩
  · rw [if_neg (by omega), if_neg (by omega), if_neg (by omega), if_pos (by omega)]; exact ⟨rfl, h, by simp, rfl⟩
  · rw [if_pos h0, if_neg (by omega), if_pos h0]; exact ⟨rfl, h, by simp, rfl⟩
  · rw [if_neg (by omega), if_pos h0, if_neg (by omega), if_neg (by omega), if_pos h0]; exact ⟨rfl, h, by simp, rfl⟩
theorem cut_perm {l : List Rw} {k : Nat} (h : k < l.length) : l.Perm (l[k] :: (l.take k ++ l.drop (k + 1))) := by
  conv => lhs; rw [← List.take_append_drop k l, List.drop_eq_getElem_cons h]
  exact List.perm_middle
theorem set_perm {l : List Rw} {k : Nat} (h : k < l.length) (y : Rw) : (l.set k y).Perm (y :: (l.take k ++ l.drop (k + 1))) := by
  rw [List.set_eq_take_append_cons_drop, if_pos h]
  exact List.perm_middle
theorem Rel.end (h : Rel t r) {d : I} (c : Int) (v : ByteArray) : (endF t d c v).1 = (endR r d c v).1 ∧ Rel (endF t d c v).2 (endR r d c v).2 ∧ (endR r d c v).2.L.length ≤ r.L.length + 1 ∧ (endR r d c v).2.F = r.F := by
  have hst : ∀ x, rfnd r.L d = some x → (stateF t d = if x.ended then 2 else 1) := fun x hx => by
    rw [stateF, h.find, hx]
  rw [endF, endR]
  cases hf : rfnd r.L d with
  | none =>
    have : ¬ stateF t d = 1 := by
      rw [stateF, h.find, hf]; simp only
      split
      · decide
      · split <;> decide
    rw [if_neg this]; exact ⟨rfl, h, by simp, rfl⟩
  | some x =>
    have hs := hst x hf
    simp only
    cases he : x.ended with
    | true =>
      rw [he] at hs
      rw [if_neg (by rw [hs]; decide)]; exact ⟨rfl, h, by simp, rfl⟩
    | false =>
      rw [he] at hs
      rw [if_pos (by rw [hs]; decide), h.old, if_neg (show ¬ (false = true) by decide)]
      obtain ⟨hk, e1, e2⟩ := rfnd_some hf
      have hmem : (d, x) ∈ t.R := fnd_mem (by rw [h.find, hf])
      have hcp := cut_perm hk
      rw [e1] at hcp
      have hp1 : (X.mdel d t.R).Perm ((r.L.take (fK r.L d) ++ r.L.drop (fK r.L d + 1)).map kv) := by
        have h1 := (mdel_perm hmem h.nd).symm.trans (h.R.trans (hcp.map kv))
        rw [List.map_cons, kv, e2] at h1
        exact h1.cons_inv
      have hid : ∀ x ∈ r.L.take (fK r.L d) ++ r.L.drop (fK r.L d + 1), x.id.In := fun x hx => by
        rcases List.mem_append.1 hx with hx | hx
        · exact h.idin x (List.mem_of_mem_take hx)
        · exact h.idin x (List.mem_of_mem_drop hx)
      cases ho : oldF r.F d with
      | true =>
        rw [if_pos rfl, if_pos rfl]
        refine ⟨rfl, ⟨h.win, hp1, mdel_nodup h.nd, h.F, h.nf, ?_, h.fpos, hid⟩, ?_, rfl⟩
        · refine h.srt.sublist ?_
          rw [← List.eraseIdx_eq_take_drop_succ]
          exact List.eraseIdx_sublist ..
        · simp only [List.length_append, List.length_take, List.length_drop]; omega
      | false =>
        rw [if_neg (by decide), if_neg (by decide)]
        refine ⟨rfl, ⟨h.win, ?_, mput_nodup h.nd, h.F, h.nf, ?_, h.fpos, ?_⟩, ?_, rfl⟩
        · refine mput_perm.trans ?_
          have h2 := (set_perm hk (x.told c v)).map kv
          rw [List.map_cons] at h2
          have e3 : kv (x.told c v) = (d, ⟨d, true, c, v⟩) := by simp only [kv, Rw.told, e2]
          rw [e3] at h2
          exact (hp1.cons _).trans h2.symm
        · rw [List.pairwise_iff_getElem]
          intro i j hi hj hij
          rw [List.length_set] at hi hj
          have h1 := List.pairwise_iff_getElem.1 h.srt i j hi hj hij
          have hn : ∀ (m : Nat) (hm : m < r.L.length), ((r.L.set (fK r.L d) (x.told c v))[m]'(by rw [List.length_set]; exact hm)).id.num = r.L[m].id.num := fun m hm => by
            rw [List.getElem_set]
            split
            · rename_i hkm; subst hkm; rw [e1]; rfl
            · rfl
          rw [hn i hi, hn j hj]; exact h1
        · intro y hy
          rcases List.mem_cons.1 ((set_perm hk _).mem_iff.1 hy) with rfl | hy
          · have := h.idin _ (List.getElem_mem hk)
            rw [e1] at this; exact this
          · exact hid y hy
        · simp
theorem Rel.raise (h : Rel t r) (p : Int × Int) (n : Int) : Rel (raiseF t p n) (raiseR r p n) ∧ (raiseR r p n).L.length ≤ r.L.length + 1 ∧ (raiseR r p n).F.length ≤ r.F.length + 1 := by
  rw [raiseF, raiseR, h.floor]
  split
  rotate_left
  · exact ⟨h, by omega, by omega⟩
  rename_i hc
  simp only [Bool.and_eq_true, decide_eq_true_eq] at hc
  have hfl : 0 ≤ floorF r.F p := by
    rw [floorF]
    cases hq : fnd p r.F with
    | none => simp
    | some v => have := (h.fpos _ (fnd_mem hq)).1; simp only [Option.getD_some]; simp only at this; omega
  have hF : (X.mput p n t.Fl).Perm (putR r.F p n) := by
    refine mput_perm.trans ?_
    rw [mdel_filter h.nf, putR]
    refine List.Perm.cons _ ?_
    have := h.F.filter (fun x => !(x.1 == p))
    refine List.Perm.trans (.of_eq ?_) this
    refine List.filter_congr fun x _ => ?_
    by_cases hx : x.1 = p <;> simp [hx]
  have hnf := mput_nodup (x := p) (v := n) h.nf
  have hpast : ∀ d y, pastF (X.mput p n t.Fl) p d y = pastF (putR r.F p n) p d y := fun d y => by
    rw [pastF, pastF, oldF, oldF, floorF, floorF, fnd_perm hF hnf]
  refine ⟨⟨h.win, ?_, ?_, hF, hnf, ?_, ?_, ?_⟩, ?_, putR_len _ _ _⟩
  · simp only [hpast]
    have h1 := h.R.filter (fun x => !pastF (putR r.F p n) p x.1 x.2)
    rw [List.filter_map] at h1
    exact h1
  · exact h.nd.sublist ((List.filter_sublist).map _)
  · exact h.srt.filter _
  · intro x hx
    rcases List.mem_cons.1 hx with rfl | hx
    · exact ⟨by simp only; omega, hc.1.2⟩
    · exact h.fpos x (List.mem_filter.1 hx).1
  · intro x hx; exact h.idin x (List.mem_filter.1 hx).1
  · have := List.length_filter_le (fun x : Rw => !pastF (putR r.F p n) p x.id x) r.L
    simp only; omega
theorem Rel.act (h : Rel t r) (a : Ac) (hd : a.d.In) : Rel (doF t a).2 (playR r a) ∧ (playR r a).L.length ≤ r.L.length + 1 ∧ (playR r a).F.length ≤ r.F.length + 1 := by
  rw [doF, playR]
  split
  · obtain ⟨_, h1, h2, h3⟩ := h.begin hd
    exact ⟨h1, h2, by rw [h3]; omega⟩
  · split
    · obtain ⟨_, h1, h2, h3⟩ := h.end (d := a.d) a.c a.v
      exact ⟨h1, h2, by rw [h3]; omega⟩
    · split
      · exact h.raise _ _
      · exact ⟨h, by omega, by omega⟩
def sameT (t u : Tb) : Bool := decide (t.win = u.win) && eqMap t.R u.R && eqMap t.Fl u.Fl
theorem sameT_iff (h : Rel t r) (k : Rel u s) : sameT t u = true ↔ t.win = u.win ∧ t.R.Perm u.R ∧ t.Fl.Perm u.Fl := by
  rw [sameT, Bool.and_eq_true, Bool.and_eq_true, decide_eq_true_eq, eqMap_perm h.nd k.nd, eqMap_perm h.nf k.nf, and_assoc]
theorem sameT_self (h : Rel t r) : sameT t t = true := (sameT_iff h h).2 ⟨rfl, .refl _, .refl _⟩
theorem sameT_comm (h : Rel t r) (k : Rel u s) : sameT t u = sameT u t := by
  rw [Bool.eq_iff_iff, sameT_iff h k, sameT_iff k h]
  exact ⟨fun ⟨a, b, c⟩ => ⟨a.symm, b.symm, c.symm⟩, fun ⟨a, b, c⟩ => ⟨a.symm, b.symm, c.symm⟩⟩
end
end Go.Proofs
namespace Go.Proofs
open Go X RowKit
theorem sorted_perm : ∀ {l l' : List Rw}, l.Perm l' → l.Pairwise (fun x y => x.id.num < y.id.num) → l'.Pairwise (fun x y => x.id.num < y.id.num) → l = l'
  | [], l', h, _, _ => (List.nil_perm.1 h).symm
  | a :: l, [], h, _, _ => by simpa using h.length_eq
  | a :: l, b :: l', h, h1, h2 => by
    have h1' := List.pairwise_cons.1 h1
    have h2' := List.pairwise_cons.1 h2
    have hab : a = b := by
      rcases List.mem_cons.1 (h.mem_iff.1 (List.mem_cons_self : a ∈ a :: l)) with e | e
      · exact e
      · rcases List.mem_cons.1 (h.mem_iff.2 (List.mem_cons_self : b ∈ b :: l')) with e2 | e2
        · exact e2.symm
        · have := h1'.1 b e2; have := h2'.1 a e; omega
    subst hab
    rw [sorted_perm h.cons_inv h1'.2 h2'.2]
section
variable {t u : Tb} {r s : Rt}
theorem same_same (h : Rel t r) (k : Rel u s) : sameT t u = sameR r s := by
  rw [Bool.eq_iff_iff, sameT_iff h k, sameR, decide_eq_true_eq, h.win, k.win]
  have hR : t.R.Perm u.R ↔ r.L = s.L := by
    constructor
    · intro hp
      have h1 := (h.R.symm.trans hp).trans k.R
      have h2 := h1.map Prod.snd
      rw [List.map_map, List.map_map] at h2
      have e : (Prod.snd ∘ kv) = (id : Rw → Rw) := rfl
      rw [e, List.map_id, List.map_id] at h2
      exact sorted_perm h2 h.srt k.srt
    · intro e
      have h1 := h.R
      rw [e] at h1
      exact h1.trans k.R.symm
  have hF : t.Fl.Perm u.Fl ↔ (r.F.length = s.F.length ∧ ∀ x ∈ r.F, floorF s.F x.1 = x.2) := by
    rw [← eqMap_perm h.nf k.nf, eqMap, decide_eq_true_eq, h.F.length_eq, k.F.length_eq]
    refine and_congr_right fun _ => ?_
    constructor
    · intro hx x hm
      have := hx x (h.F.mem_iff.2 hm)
      rw [← k.floor, floorF, this]; rfl
    · intro hx x hm
      have hm' := h.F.mem_iff.1 hm
      have h1 := hx x hm'
      have h2 := (h.fpos x hm').1
      rw [fnd_perm k.F k.nf]
      rw [floorF] at h1
      cases hq : fnd x.1 s.F with
      | none => rw [hq] at h1; simp only [Option.getD_none] at h1; omega
      | some v => rw [hq] at h1; simp only [Option.getD_some] at h1; rw [h1]
  rw [hR, hF]
end
theorem Rel.ok {t : Tb} {r : Rt} (h : Rel t r) (n : Nat) (hn : n ≤ 1000) (hL : r.L.length ≤ n) (hF : r.F.length ≤ n) : r.Ok :=
  ⟨h.idin, by omega, by omega, fun x hx => by have := h.fpos x hx; omega⟩
def r0 (a : Int) : Rt := ⟨if (16 : Int) < (if (1 : Int) > a then 1 else a) then 16 else (if (1 : Int) > a then 1 else a), [], []⟩
theorem rel0 (a : Int) : Rel (tb0 a) (r0 a) := by
  refine ⟨?_, .refl _, by simp, .refl _, by simp, by simp [r0], by simp [r0], by simp [r0]⟩
  show winF a = _
  rw [winF, r0]
  exact w_u32 (by split <;> (try split) <;> omega) (by split <;> (try split) <;> omega)
theorem c_play (b : Nat) (r : Rt) (kd : Int) (d : I) (c : Int) (v : ByteArray) (nn : Int) (hd : d.In) (hr : r.Ok) (hfl : r.F.length < 100000) :
    Ctr Try.prog 15 #[.pointer (some ⟨b, 0, none⟩), .agg #[.int .i64 kd, .int .u8 d.n, .int .u16 d.l, .int .u32 d.s, .int .u8 d.d, .int .u8 d.g0, .int .u8 d.i0, .int .u8 d.g1, .int .u8 d.i1, .int .u8 d.g2, .int .u8 d.i2, .int .u8 c, .string v, .int .u32 nn]] noMem [rtA b r] (fun _ : Unit => .tuple #[]) (fun _ _ => True) (fun _ => [rtA b (playR r ⟨kd, d, c, v, nn⟩)]) := by
  refine Ctr.mk fun w F m C _ => x_gemotlaw14_play _ _ _ _ _ _ _ _ _ _ _ _ _ _ _ w _ ?_
  let K : Ending → World → Prop := fun e w' => ∃ i : Unit, ∃ m' L, e = .returned (.tuple #[]) ∧ True ∧ Ctx F m w w' L m' [rtA b (playR r ⟨kd, d, c, v, nn⟩)]
  have wB : (kd = 0 ∨ kd = 1 ∨ kd = 2) → ∀ w' L', Hid [] w w' → NewL w.heap.size [] w w' L' →
      CallX Try.prog 22 #[.pointer (some ⟨b, 0, none⟩), d.V] w' fun e w2 => ∃ n, e = .returned (.int .i64 n) ∧ Kept L' w' w2 ∧ K (.returned (.tuple #[])) w2 := by
    intro hk w' L' hh gg
    refine (c_rBegin b r d hd hr).call (As := []) (C.hidL hh gg) trivial fun _ m3 w7 hk1 hm _ C => ⟨_, rfl, hk1, (), m3, L', rfl, trivial, ?_⟩
    rw [playR, if_pos hk]; exact C
  have wE : (kd = 3 ∨ kd = 4) → ∀ w' L', Hid [] w w' → NewL w.heap.size [] w w' L' →
      CallX Try.prog 25 #[.pointer (some ⟨b, 0, none⟩), d.V, .agg #[.int .u8 c, .string v]] w' fun e w3 => ∃ n2, e = .returned (.bool n2) ∧ Kept L' w' w3 ∧ K (.returned (.tuple #[])) w3 := by
    intro hk w' L' hh gg
    have hn : ¬ (kd = 0 ∨ kd = 1 ∨ kd = 2) := by omega
    refine (c_rEnd b r d c v hd hr).call (As := []) (C.hidL hh gg) trivial fun _ m3 w7 hk1 hm _ C => ⟨_, rfl, hk1, (), m3, L', rfl, trivial, ?_⟩
    rw [playR, if_neg hn, if_pos hk]; exact C
  have wR : kd = 5 → ∀ w' L', Hid [] w w' → NewL w.heap.size [] w w' L' →
      CallX Try.prog 27 #[.pointer (some ⟨b, 0, none⟩), .agg #[.int .u8 d.n, .int .u16 d.l], .int .u32 nn] w' fun e w2 => e = .returned (.tuple #[]) ∧ Kept L' w' w2 ∧ K (.returned (.tuple #[])) w2 := by
    intro hk w' L' hh gg
    refine (c_rRaise b r (d.n, d.l) nn hr hfl).call (As := []) (C.hidL hh gg) trivial fun _ m3 w7 hk1 hm _ C => ⟨rfl, hk1, (), m3, L', rfl, trivial, ?_⟩
    rw [playR, if_neg (by simp only; omega), if_neg (by simp only; omega), if_pos hk]; exact C
  have wN : ¬ (kd = 0 ∨ kd = 1 ∨ kd = 2) → ¬ (kd = 3 ∨ kd = 4) → ¬ kd = 5 → ∀ w' : World, Hid [] w w' → K (.returned (.tuple #[])) w' := by
    intro k0 k3 k5 w' hh
    refine ⟨(), m, [], rfl, trivial, ?_⟩
    rw [playR, if_neg k0, if_neg k3, if_neg k5]; exact C.hid0 hh
  by_cases h0 : kd = 0
  · subst h0; rw [if_pos (by decide), if_pos (by decide)]; exact wB (by omega)
  by_cases h1 : kd = 1
  · subst h1; rw [if_neg (by decide), if_pos (by decide), if_pos (by decide)]; exact wB (by omega)
  by_cases h2 : kd = 2
  · subst h2; rw [if_neg (by decide), if_neg (by decide), if_pos (by decide)]; exact wB (by omega)
  by_cases h3 : kd = 3
  · subst h3; rw [if_neg (by decide), if_neg (by decide), if_neg (by decide), if_pos (by decide), if_pos (by decide)]; exact wE (by omega)
  by_cases h4 : kd = 4
  · subst h4; rw [if_neg (by decide), if_neg (by decide), if_neg (by decide), if_neg (by decide), if_pos (by decide)]; exact wE (by omega)
  by_cases h5 : kd = 5
  · subst h5; rw [if_neg (by decide), if_neg (by decide), if_neg (by decide), if_neg (by decide), if_neg (by decide), if_pos (by decide)]; exact wR rfl
  rw [if_neg (by simpa using h0), if_neg (by simpa using h1), if_neg (by simpa using h2), if_neg (by simpa using h3), if_neg (by simpa using h4), if_neg (by simpa using h5)]
  exact wN (by omega) (by omega) h5
end Go.Proofs
