import Derived.Test.YtjabbpcfinjofaaU23m
import Derived.Test.YtjabbpcfinjofaaV23g
import Derived.Test.YtjabbpcfinjofaaXSub
set_option linter.unusedVariables false
set_option linter.unusedSimpArgs false
set_option maxRecDepth 10000
namespace Go.Proofs
open Go X RowKit
/-! ### keys -/
theorem pr_ext {a b : Pr} (h : a.n = b.n ∧ a.l = b.l) : a = b := by cases a; cases b; simp_all
instance : DecidableEq Pr := fun a b => decidable_of_iff (a.n = b.n ∧ a.l = b.l) ⟨pr_ext, fun h => by rw [h]; exact ⟨rfl, rfl⟩⟩
theorem i_ext {a b : I} (h : a.n = b.n ∧ a.l = b.l ∧ a.s = b.s ∧ a.d = b.d ∧ a.g0 = b.g0 ∧ a.i0 = b.i0 ∧ a.g1 = b.g1 ∧ a.i1 = b.i1 ∧ a.g2 = b.g2 ∧ a.i2 = b.i2) : a = b := by cases a; cases b; simp_all
structure Sd where (f : Pr) (id : I) (rc : Int) (rv : ByteArray) (g n : Int)
@[reducible] def Sd.V (x : Sd) : Value := .agg #[.int .u8 x.f.n, .int .u16 x.f.l, .int .u8 x.id.n, .int .u16 x.id.l, .int .u32 x.id.s, .int .u8 x.id.d, .int .u8 x.id.g0, .int .u8 x.id.i0, .int .u8 x.id.g1, .int .u8 x.id.i1, .int .u8 x.id.g2, .int .u8 x.id.i2, .int .u8 x.rc, .string x.rv, .int .u8 x.g, .int .u32 x.n]
theorem sd_ext {a b : Sd} (h : a.f = b.f ∧ a.id = b.id ∧ a.rc = b.rc ∧ a.rv = b.rv ∧ a.g = b.g ∧ a.n = b.n) : a = b := by cases a; cases b; simp_all
instance : DecidableEq Sd := fun a b => decidable_of_iff (a.f = b.f ∧ a.id = b.id ∧ a.rc = b.rc ∧ a.rv = b.rv ∧ a.g = b.g ∧ a.n = b.n) ⟨sd_ext, fun h => by subst h; exact ⟨rfl, rfl, rfl, rfl, rfl, rfl⟩⟩
structure Pl where (w : Pr) (g n : Int)
@[reducible] def Pl.V (x : Pl) : Value := .agg #[.int .u8 x.w.n, .int .u16 x.w.l, .int .u8 x.g, .int .u32 x.n]
theorem pl_ext {a b : Pl} (h : a.w = b.w ∧ a.g = b.g ∧ a.n = b.n) : a = b := by cases a; cases b; simp_all
instance : DecidableEq Pl := fun a b => decidable_of_iff (a.w = b.w ∧ a.g = b.g ∧ a.n = b.n) ⟨pl_ext, fun h => by subst h; exact ⟨rfl, rfl, rfl⟩⟩
theorem key102 : KeyT Try.prog 102 I.V := by
  refine keyAgg Try.underlying102 (fun x => ⟨_, rfl⟩) (fun x => by kernel_rfl) (fun x y => ⟨((x.n == y.n) && (x.l == y.l)) && ((x.s == y.s) && ((x.d == y.d) && (((x.g0 == y.g0) && (x.i0 == y.i0)) && (((x.g1 == y.g1) && (x.i1 == y.i1)) && ((x.g2 == y.g2) && (x.i2 == y.i2)))))), by kernel_rfl, ?_⟩) (fun x => by simp [Instr.sameBits])
  simp only [Bool.and_eq_true, beq_iff_eq]
  constructor
  · rintro ⟨⟨h1, h2⟩, h3, h4, ⟨h5, h6⟩, ⟨h7, h8⟩, h9, h10⟩
    exact i_ext ⟨h1, h2, h3, h4, h5, h6, h7, h8, h9, h10⟩
  · rintro rfl; exact ⟨⟨rfl, rfl⟩, rfl, rfl, ⟨rfl, rfl⟩, ⟨rfl, rfl⟩, rfl, rfl⟩
theorem key168 : KeyT Try.prog 168 Sd.V := by
  refine keyAgg Try.underlying168 (fun x => ⟨_, rfl⟩) (fun x => by kernel_rfl) (fun x y => ⟨((x.f.n == y.f.n) && (x.f.l == y.f.l)) && ((((x.id.n == y.id.n) && (x.id.l == y.id.l)) && ((x.id.s == y.id.s) && ((x.id.d == y.id.d) && (((x.id.g0 == y.id.g0) && (x.id.i0 == y.id.i0)) && (((x.id.g1 == y.id.g1) && (x.id.i1 == y.id.i1)) && ((x.id.g2 == y.id.g2) && (x.id.i2 == y.id.i2))))))) && (((x.rc == y.rc) && (x.rv == y.rv)) && ((x.g == y.g) && (x.n == y.n)))), by kernel_rfl, ?_⟩) (fun x => by simp [Instr.sameBits]; exact (ba_eq _ _).2 rfl)
  simp only [Bool.and_eq_true, beq_iff_eq, ba_eq]
  constructor
  · rintro ⟨⟨a1, a2⟩, ⟨⟨h1, h2⟩, h3, h4, ⟨h5, h6⟩, ⟨h7, h8⟩, h9, h10⟩, ⟨b1, b2⟩, c1, c2⟩
    exact sd_ext ⟨pr_ext ⟨a1, a2⟩, i_ext ⟨h1, h2, h3, h4, h5, h6, h7, h8, h9, h10⟩, b1, b2, c1, c2⟩
  · rintro rfl; exact ⟨⟨rfl, rfl⟩, ⟨⟨rfl, rfl⟩, rfl, rfl, ⟨rfl, rfl⟩, ⟨rfl, rfl⟩, rfl, rfl⟩, ⟨rfl, rfl⟩, rfl, rfl⟩
theorem key173 : KeyT Try.prog 173 Pl.V := by
  refine keyAgg Try.underlying173 (fun x => ⟨_, rfl⟩) (fun x => by kernel_rfl) (fun x y => ⟨((x.w.n == y.w.n) && (x.w.l == y.w.l)) && ((x.g == y.g) && (x.n == y.n)), by kernel_rfl, ?_⟩) (fun x => by simp [Instr.sameBits])
  simp only [Bool.and_eq_true, beq_iff_eq]
  constructor
  · rintro ⟨⟨a1, a2⟩, c1, c2⟩
    exact pl_ext ⟨pr_ext ⟨a1, a2⟩, c1, c2⟩
  · rintro rfl; exact ⟨⟨rfl, rfl⟩, rfl, rfl⟩
theorem t79 : Try.prog.underlying 79 = some (.map 102 4) := Try.underlying79
theorem t84 : Try.prog.underlying 84 = some (.map 168 4) := Try.underlying84
theorem t87 : Try.prog.underlying 87 = some (.map 173 4) := Try.underlying87
theorem z4 : ((Try.prog.info? 4).bind (·.zero)) = some (.bool false) := by kernel_rfl
abbrev encB (b : Bool) : Value := .bool b
abbrev gl {α : Type} (l : List α) : List (α × Bool) := l.map fun p => (p, true)
theorem fnd_gl {α : Type} [DecidableEq α] (l : List α) (p : α) : fnd p (gl l) = if p ∈ l then some true else none := by
  induction l with
  | nil => rfl
  | cons a l ih =>
    simp only [gl, List.map_cons] at ih ⊢
    unfold fnd
    by_cases h : a = p
    · subst h; simp
    · have h' : ¬ p = a := fun e => h e.symm
      simp [h, h', ih]
theorem keys_gl {α : Type} (l : List α) : (gl l).map (·.1) = l := by
  induction l with
  | nil => rfl
  | cons a l ih => simp only [gl, List.map_cons] at ih ⊢; rw [ih]
def mpL {α : Type} [DecidableEq α] (enc : α → Value) : Option Nat → List α → List Asn
  | none, _ => []
  | some mp, ks => [mapA mp enc encB (gl ks)]
theorem nil_look {t kt : TypeId} {α : Type} [DecidableEq α] {enc : α → Value} (ht : Try.prog.underlying t = some (.map kt 4)) (K : KeyT Try.prog kt enc) (x : α) (w : World) : (Instr.lookup t (.map none) (enc x) false).run Try.prog w = .ok (.bool false) w := by
  obtain ⟨i, hi, hz⟩ := Option.bind_eq_some_iff.1 z4
  have hf := K.find x [] [] rfl w
  simp only [Instr.lookup, Sem.run_bind, run_underlying ht, Result.andThen_ok, K.check, hf, scan, Sem.run_pure, zeroValue, typeInfo, run_program, hi, hz]
  rfl
theorem gl_look {t kt : TypeId} {α : Type} [DecidableEq α] {enc : α → Value} (ht : Try.prog.underlying t = some (.map kt 4)) (K : KeyT Try.prog kt enc) {F0 : List Nat} {m0 : Mem} {w0 w : World} {L : List Nat} {m : Mem} {A B : Asn} {q : Option Nat} {ks : List α} (C : Ctx F0 m0 w0 w L m (A :: B :: mpL enc q ks)) (hq : q = none → ks = []) (x : α) :
    (Instr.lookup t (.map q) (enc x) false).run Try.prog w = .ok (.bool (decide (x ∈ ks))) w := by
  cases q with
  | none => rw [nil_look ht K, hq rfl]; rfl
  | some mp =>
    obtain ⟨i, hi, hz⟩ := Option.bind_eq_some_iff.1 z4
    have := Ctx.mlook (P := Try.prog) ht K hi hz (Ctx.pm (As := [A, B, mapA mp enc encB (gl ks)]) C [2, 0, 1] rfl) x false
    rw [fnd_gl] at this
    rw [this]
    by_cases h : x ∈ ks <;> simp [h]
theorem splice_self {cs : List Value} {o : Nat} {v : Value} (h : cs[o]? = some v) : splice cs o [v] = cs := by
  obtain ⟨h1, h2⟩ := List.getElem?_eq_some_iff.1 h
  rw [splice, List.append_assoc]
  have : [v] ++ cs.drop (o + [v].length) = cs.drop o := by
    rw [List.drop_eq_getElem_cons h1, h2]; rfl
  rw [this, List.take_append_drop]
theorem splice_ne {cs : List Value} {o : Nat} {v : Value} (h : o < cs.length) (k : Nat) (hk : k ≠ o) : (splice cs o [v])[k]? = cs[k]? := by
  rw [splice, List.append_assoc]
  by_cases h1 : k < o
  · rw [List.getElem?_append_left (by simp; omega), List.getElem?_take_of_lt h1]
  · have ht : (cs.take o).length = o := by simp; omega
    rw [List.getElem?_append_right (by omega), ht, List.getElem?_append_right (by simp; omega), List.getElem?_drop]
    congr 1; simp; omega
theorem splice_eq {cs : List Value} {o : Nat} {v : Value} (h : o < cs.length) : (splice cs o [v])[o]? = some v := by
  have ht : (cs.take o).length = o := by simp; omega
  rw [splice, List.append_assoc, List.getElem?_append_right (by omega), ht]; simp
theorem splice_len {cs : List Value} {o : Nat} {v : Value} (h : o < cs.length) : (splice cs o [v]).length = cs.length := by
  simp [splice]; omega
def Td.key (t : Td) : Sd := ⟨t.f, t.id, t.rc, t.rv, t.v.g, t.v.n⟩
def St.key (s : St) : Pl := ⟨s.w, s.v.g, s.v.n⟩
theorem c_noteB (b o : Nat) (cs : List Value) (q : Option Nat) (sl : Sl) (l : List Bg) (v : Bg) (h0 : cs[o]? = some (.map q)) (h1 : cs[o + 1]? = some (slV sl l.length)) (hq : q = none → l = []) (hl : l.length ≤ 100000) :
    Ctr Try.prog 54 #[.pointer (some ⟨b, o, none⟩), v.id.V, .agg v.row.toArray] noMem (blk b cs 92 :: slA (slV sl l.length) l.length (l.flatMap Bg.row) 112 14 :: mpL I.V q (l.map fun v => v.id))
      (fun _ : Option Nat × Sl => .bool (decide (v.id ∉ l.map fun v => v.id))) (fun i _ => v.id ∉ (l.map fun v => v.id) → i.1 ≠ none)
      (fun i => if v.id ∈ (l.map fun v => v.id) then blk b cs 92 :: slA (slV sl l.length) l.length (l.flatMap Bg.row) 112 14 :: mpL I.V q (l.map fun v => v.id)
        else blk b (splice (splice cs o [.map i.1]) (o + 1) [slV i.2 (l.length + 1)]) 92 :: slA (slV i.2 (l.length + 1)) (l.length + 1) ((l ++ [v]).flatMap Bg.row) 112 14 :: mpL I.V i.1 ((l ++ [v]).map fun v => v.id)) := by
  refine Ctr.mk fun w F m C _ => x_noteB _ _ _ _ _ _ _ _ _ _ _ _ _ _ _ _ _ _ _ _ _ _ _ _ _ _ _ w _ ?_
  simp only [Addr.add_mid, Nat.add_zero]
  have ho : o < cs.length := (List.getElem?_eq_some_iff.1 h0).1
  have ho1 : o + 1 < cs.length := (List.getElem?_eq_some_iff.1 h1).1
  have e2 : (l ++ [v]).flatMap Bg.row = l.flatMap Bg.row ++ v.row := by simp
  have fm : ∀ {w' L' m'} {As : List Asn}, Ctx F m w w' L' m' (blk b cs 92 :: As) → FactsW [(⟨b, o, none⟩, [.map q]), (⟨b, o + 1, none⟩, [slV sl l.length])] w' L' := fun C => C.blkFact1 o _ h0 (C.blkFact1 (o + 1) _ h1 (facts_nil _ _))
  refine ⟨_, fm C, q, by simp, fun w3 L4 h3 g3 => ?_⟩
  replace C := C.hidL h3 g3
  refine ⟨_, w3, gl_look t79 key102 C (fun e => by rw [hq e]; rfl) v.id, kept_refl _ _, fm C, ?_⟩
  by_cases hk : v.id ∈ l.map fun v => v.id
  · rw [if_pos (by simpa using hk)]
    refine ⟨(q, sl), m, L4, by simp [hk], fun h => absurd hk h, ?_⟩
    rw [if_pos hk]; exact C
  rw [if_neg (by simpa using hk)]
  refine ⟨q, C.blkCell h0, C.blkAt.2, ?_⟩
  have fs : ∀ {w' L' m'} {mp : Option Nat} {As : List Asn}, Ctx F m w w' L' m' (blk b (splice cs o [.map mp]) 92 :: As) → FactsW [(⟨b, o, none⟩, [.map mp]), (⟨b, o + 1, none⟩, [slV sl l.length])] w' L' := fun C => C.blkFact1 o _ (splice_eq ho) (C.blkFact1 (o + 1) _ (by rw [splice_ne ho _ (by omega)]; exact h1) (facts_nil _ _))
  have hmp : X.mput v.id true (gl (l.map fun v => v.id)) = gl ((l ++ [v]).map fun v => v.id) := by
    rw [mput_out (by rw [keys_gl]; exact hk)]; simp [gl]
  cases q with
  | none =>
    rw [if_pos (show (none : Option Nat).isNone = true from rfl)]
    have hl0 := hq rfl
    have D := C.mapNew I.V encB
    have D1 := D.swap.store o [.map (some w3.heap.size)] (by simp; omega)
    refine ⟨trivial, D.swap.there o 1 (by omega), D.swap.blkAt.2, _, fs D1, some w3.heap.size, by simp, fun w25 L26 h25 g25 => ?_⟩
    obtain ⟨w27, hr, hk27, D2⟩ := Ctx.mput (P := Try.prog) t79 key102 (D1.hidL h25 g25).swap v.id true
    have e0 : X.mput v.id true ([] : List (_ × Bool)) = gl ((l ++ [v]).map fun v => v.id) := by rw [← hmp, hl0]; rfl
    rw [e0] at D2
    have D3 := D2.pm [1, 0, 2] rfl
    refine ⟨w27, hr, hk27, _, fs D3, sl.1, l.length, sl.2, by simp, fun w32 L33 h32 g32 => ?_⟩
    have D4 := D3.hidL h32 g32
    have E0 := D4.alloc v.row 112
    have hcl : Cells _ ⟨w32.heap.size, 0, none⟩ v.row := E0.blkCells (o := 0) fun k u e => by simpa using e
    have E1 := E0.pm [3, 0, 1, 2] rfl
    obtain ⟨q2, c2, w37, hr2, hkk, E2⟩ := Ctx.app2 (P := Try.prog) (bytes := 120) (t := 71) (t2 := 71) E1 71 (by kernel_rfl) (.some ⟨w32.heap.size, 0, none⟩ 1 1 v.row rfl hcl) (by unfold maxLen; omega) (by omega) (bg_one _)
    have E3 := E2.pk [2, 0, 3] [1] rfl
    refine ⟨fs (E0.pm [1, 0, 2, 3] rfl), q2, l.length + 1, c2, w37, hr2, hkk, fs E3, trivial, E3.there (o + 1) 1 (by simp only [splice_len ho]; omega), E3.blkAt.2, ?_⟩
    have E4 := E3.store (o + 1) [slV (q2, c2) (l.length + 1)] (by simp only [splice_len ho]; simp; omega)
    refine ⟨(some w3.heap.size, (q2, c2)), m, L33, by simp [hk], fun _ => by simp, ?_⟩
    rw [if_neg hk, e2]
    exact E4
  | some mp =>
    rw [if_neg (by simp)]
    have hsp : splice cs o [.map (some mp)] = cs := splice_self h0
    rw [← hsp] at C
    refine ⟨_, fs C, some mp, by simp, fun w10 L11 h10 g10 => ?_⟩
    obtain ⟨w27, hr, hk27, D2⟩ := Ctx.mput (P := Try.prog) t79 key102 (Ctx.pm (As := [_, _, mapA mp I.V encB (gl (l.map fun v => v.id))]) (C.hidL h10 g10) [2, 0, 1] rfl) v.id true
    rw [hmp] at D2
    have D3 := D2.pm [1, 0, 2] rfl
    refine ⟨w27, hr, hk27, _, fs D3, sl.1, l.length, sl.2, by simp, fun w32 L33 h32 g32 => ?_⟩
    have D4 := D3.hidL h32 g32
    have E0 := D4.alloc v.row 112
    have hcl : Cells _ ⟨w32.heap.size, 0, none⟩ v.row := E0.blkCells (o := 0) fun k u e => by simpa using e
    have E1 := E0.pm [3, 0, 1, 2] rfl
    obtain ⟨q2, c2, w37, hr2, hkk, E2⟩ := Ctx.app2 (P := Try.prog) (bytes := 120) (t := 71) (t2 := 71) E1 71 (by kernel_rfl) (.some ⟨w32.heap.size, 0, none⟩ 1 1 v.row rfl hcl) (by unfold maxLen; omega) (by omega) (bg_one _)
    have E3 := E2.pk [2, 0, 3] [1] rfl
    refine ⟨fs (E0.pm [1, 0, 2, 3] rfl), q2, l.length + 1, c2, w37, hr2, hkk, fs E3, trivial, E3.there (o + 1) 1 (by simp only [splice_len ho]; omega), E3.blkAt.2, ?_⟩
    have E4 := E3.store (o + 1) [slV (q2, c2) (l.length + 1)] (by simp only [splice_len ho]; simp; omega)
    refine ⟨(some mp, (q2, c2)), m, L33, by simp [hk], fun _ => by simp, ?_⟩
    rw [if_neg hk, e2]
    exact E4
theorem c_noteE (b o : Nat) (cs : List Value) (q : Option Nat) (sl : Sl) (l : List Ed) (v : Ed) (h0 : cs[o]? = some (.map q)) (h1 : cs[o + 1]? = some (slV sl l.length)) (hq : q = none → l = []) (hl : l.length ≤ 100000) :
    Ctr Try.prog 57 #[.pointer (some ⟨b, o, none⟩), v.id.V, .agg v.row.toArray] noMem (blk b cs 92 :: slA (slV sl l.length) l.length (l.flatMap Ed.row) 116 17 :: mpL I.V q (l.map fun v => v.id))
      (fun _ : Option Nat × Sl => .bool (decide (v.id ∉ l.map fun v => v.id))) (fun i _ => v.id ∉ (l.map fun v => v.id) → i.1 ≠ none)
      (fun i => if v.id ∈ (l.map fun v => v.id) then blk b cs 92 :: slA (slV sl l.length) l.length (l.flatMap Ed.row) 116 17 :: mpL I.V q (l.map fun v => v.id)
        else blk b (splice (splice cs o [.map i.1]) (o + 1) [slV i.2 (l.length + 1)]) 92 :: slA (slV i.2 (l.length + 1)) (l.length + 1) ((l ++ [v]).flatMap Ed.row) 116 17 :: mpL I.V i.1 ((l ++ [v]).map fun v => v.id)) := by
  refine Ctr.mk fun w F m C _ => x_noteE _ _ _ _ _ _ _ _ _ _ _ _ _ _ _ _ _ _ _ _ _ _ _ _ _ _ _ _ w _ ?_
  simp only [Addr.add_mid, Nat.add_zero]
  have ho : o < cs.length := (List.getElem?_eq_some_iff.1 h0).1
  have ho1 : o + 1 < cs.length := (List.getElem?_eq_some_iff.1 h1).1
  have e2 : (l ++ [v]).flatMap Ed.row = l.flatMap Ed.row ++ v.row := by simp
  have fm : ∀ {w' L' m'} {As : List Asn}, Ctx F m w w' L' m' (blk b cs 92 :: As) → FactsW [(⟨b, o, none⟩, [.map q]), (⟨b, o + 1, none⟩, [slV sl l.length])] w' L' := fun C => C.blkFact1 o _ h0 (C.blkFact1 (o + 1) _ h1 (facts_nil _ _))
  refine ⟨_, fm C, q, by simp, fun w3 L4 h3 g3 => ?_⟩
  replace C := C.hidL h3 g3
  refine ⟨_, w3, gl_look t79 key102 C (fun e => by rw [hq e]; rfl) v.id, kept_refl _ _, fm C, ?_⟩
  by_cases hk : v.id ∈ l.map fun v => v.id
  · rw [if_pos (by simpa using hk)]
    refine ⟨(q, sl), m, L4, by simp [hk], fun h => absurd hk h, ?_⟩
    rw [if_pos hk]; exact C
  rw [if_neg (by simpa using hk)]
  refine ⟨q, C.blkCell h0, C.blkAt.2, ?_⟩
  have fs : ∀ {w' L' m'} {mp : Option Nat} {As : List Asn}, Ctx F m w w' L' m' (blk b (splice cs o [.map mp]) 92 :: As) → FactsW [(⟨b, o, none⟩, [.map mp]), (⟨b, o + 1, none⟩, [slV sl l.length])] w' L' := fun C => C.blkFact1 o _ (splice_eq ho) (C.blkFact1 (o + 1) _ (by rw [splice_ne ho _ (by omega)]; exact h1) (facts_nil _ _))
  have hmp : X.mput v.id true (gl (l.map fun v => v.id)) = gl ((l ++ [v]).map fun v => v.id) := by
    rw [mput_out (by rw [keys_gl]; exact hk)]; simp [gl]
  cases q with
  | none =>
    rw [if_pos (show (none : Option Nat).isNone = true from rfl)]
    have hl0 := hq rfl
    have D := C.mapNew I.V encB
    have D1 := D.swap.store o [.map (some w3.heap.size)] (by simp; omega)
    refine ⟨trivial, D.swap.there o 1 (by omega), D.swap.blkAt.2, _, fs D1, some w3.heap.size, by simp, fun w25 L26 h25 g25 => ?_⟩
    obtain ⟨w27, hr, hk27, D2⟩ := Ctx.mput (P := Try.prog) t79 key102 (D1.hidL h25 g25).swap v.id true
    have e0 : X.mput v.id true ([] : List (_ × Bool)) = gl ((l ++ [v]).map fun v => v.id) := by rw [← hmp, hl0]; rfl
    rw [e0] at D2
    have D3 := D2.pm [1, 0, 2] rfl
    refine ⟨w27, hr, hk27, _, fs D3, sl.1, l.length, sl.2, by simp, fun w32 L33 h32 g32 => ?_⟩
    have D4 := D3.hidL h32 g32
    have E0 := D4.alloc v.row 116
    have hcl : Cells _ ⟨w32.heap.size, 0, none⟩ v.row := E0.blkCells (o := 0) fun k u e => by simpa using e
    have E1 := E0.pm [3, 0, 1, 2] rfl
    obtain ⟨q2, c2, w37, hr2, hkk, E2⟩ := Ctx.app2 (P := Try.prog) (bytes := 120) (t := 73) (t2 := 73) E1 73 (by kernel_rfl) (.some ⟨w32.heap.size, 0, none⟩ 1 1 v.row rfl hcl) (by unfold maxLen; omega) (by omega) (ed_one _)
    have E3 := E2.pk [2, 0, 3] [1] rfl
    refine ⟨fs (E0.pm [1, 0, 2, 3] rfl), q2, l.length + 1, c2, w37, hr2, hkk, fs E3, trivial, E3.there (o + 1) 1 (by simp only [splice_len ho]; omega), E3.blkAt.2, ?_⟩
    have E4 := E3.store (o + 1) [slV (q2, c2) (l.length + 1)] (by simp only [splice_len ho]; simp; omega)
    refine ⟨(some w3.heap.size, (q2, c2)), m, L33, by simp [hk], fun _ => by simp, ?_⟩
    rw [if_neg hk, e2]
    exact E4
  | some mp =>
    rw [if_neg (by simp)]
    have hsp : splice cs o [.map (some mp)] = cs := splice_self h0
    rw [← hsp] at C
    refine ⟨_, fs C, some mp, by simp, fun w10 L11 h10 g10 => ?_⟩
    obtain ⟨w27, hr, hk27, D2⟩ := Ctx.mput (P := Try.prog) t79 key102 (Ctx.pm (As := [_, _, mapA mp I.V encB (gl (l.map fun v => v.id))]) (C.hidL h10 g10) [2, 0, 1] rfl) v.id true
    rw [hmp] at D2
    have D3 := D2.pm [1, 0, 2] rfl
    refine ⟨w27, hr, hk27, _, fs D3, sl.1, l.length, sl.2, by simp, fun w32 L33 h32 g32 => ?_⟩
    have D4 := D3.hidL h32 g32
    have E0 := D4.alloc v.row 116
    have hcl : Cells _ ⟨w32.heap.size, 0, none⟩ v.row := E0.blkCells (o := 0) fun k u e => by simpa using e
    have E1 := E0.pm [3, 0, 1, 2] rfl
    obtain ⟨q2, c2, w37, hr2, hkk, E2⟩ := Ctx.app2 (P := Try.prog) (bytes := 120) (t := 73) (t2 := 73) E1 73 (by kernel_rfl) (.some ⟨w32.heap.size, 0, none⟩ 1 1 v.row rfl hcl) (by unfold maxLen; omega) (by omega) (ed_one _)
    have E3 := E2.pk [2, 0, 3] [1] rfl
    refine ⟨fs (E0.pm [1, 0, 2, 3] rfl), q2, l.length + 1, c2, w37, hr2, hkk, fs E3, trivial, E3.there (o + 1) 1 (by simp only [splice_len ho]; omega), E3.blkAt.2, ?_⟩
    have E4 := E3.store (o + 1) [slV (q2, c2) (l.length + 1)] (by simp only [splice_len ho]; simp; omega)
    refine ⟨(some mp, (q2, c2)), m, L33, by simp [hk], fun _ => by simp, ?_⟩
    rw [if_neg hk, e2]
    exact E4
theorem c_noteT (b o : Nat) (cs : List Value) (q : Option Nat) (sl : Sl) (l : List Td) (v : Td) (h0 : cs[o]? = some (.map q)) (h1 : cs[o + 1]? = some (slV sl l.length)) (hq : q = none → l = []) (hl : l.length ≤ 100000) :
    Ctr Try.prog 61 #[.pointer (some ⟨b, o, none⟩), v.key.V, .agg v.row.toArray] noMem (blk b cs 92 :: slA (slV sl l.length) l.length (l.flatMap Td.row) 124 17 :: mpL Sd.V q (l.map fun v => v.key))
      (fun _ : Option Nat × Sl => .bool (decide (v.key ∉ l.map fun v => v.key))) (fun i _ => v.key ∉ (l.map fun v => v.key) → i.1 ≠ none)
      (fun i => if v.key ∈ (l.map fun v => v.key) then blk b cs 92 :: slA (slV sl l.length) l.length (l.flatMap Td.row) 124 17 :: mpL Sd.V q (l.map fun v => v.key)
        else blk b (splice (splice cs o [.map i.1]) (o + 1) [slV i.2 (l.length + 1)]) 92 :: slA (slV i.2 (l.length + 1)) (l.length + 1) ((l ++ [v]).flatMap Td.row) 124 17 :: mpL Sd.V i.1 ((l ++ [v]).map fun v => v.key)) := by
  refine Ctr.mk fun w F m C _ => x_noteT _ _ _ _ _ _ _ _ _ _ _ _ _ _ _ _ _ _ _ _ _ _ _ _ _ _ _ _ _ _ _ _ _ _ _ _ w _ ?_
  simp only [Addr.add_mid, Nat.add_zero]
  have ho : o < cs.length := (List.getElem?_eq_some_iff.1 h0).1
  have ho1 : o + 1 < cs.length := (List.getElem?_eq_some_iff.1 h1).1
  have e2 : (l ++ [v]).flatMap Td.row = l.flatMap Td.row ++ v.row := by simp
  have fm : ∀ {w' L' m'} {As : List Asn}, Ctx F m w w' L' m' (blk b cs 92 :: As) → FactsW [(⟨b, o, none⟩, [.map q]), (⟨b, o + 1, none⟩, [slV sl l.length])] w' L' := fun C => C.blkFact1 o _ h0 (C.blkFact1 (o + 1) _ h1 (facts_nil _ _))
  refine ⟨_, fm C, q, by simp, fun w3 L4 h3 g3 => ?_⟩
  replace C := C.hidL h3 g3
  refine ⟨_, w3, gl_look t84 key168 C (fun e => by rw [hq e]; rfl) v.key, kept_refl _ _, fm C, ?_⟩
  by_cases hk : v.key ∈ l.map fun v => v.key
  · rw [if_pos (by simpa using hk)]
    refine ⟨(q, sl), m, L4, by simp [hk], fun h => absurd hk h, ?_⟩
    rw [if_pos hk]; exact C
  rw [if_neg (by simpa using hk)]
  refine ⟨q, C.blkCell h0, C.blkAt.2, ?_⟩
  have fs : ∀ {w' L' m'} {mp : Option Nat} {As : List Asn}, Ctx F m w w' L' m' (blk b (splice cs o [.map mp]) 92 :: As) → FactsW [(⟨b, o, none⟩, [.map mp]), (⟨b, o + 1, none⟩, [slV sl l.length])] w' L' := fun C => C.blkFact1 o _ (splice_eq ho) (C.blkFact1 (o + 1) _ (by rw [splice_ne ho _ (by omega)]; exact h1) (facts_nil _ _))
  have hmp : X.mput v.key true (gl (l.map fun v => v.key)) = gl ((l ++ [v]).map fun v => v.key) := by
    rw [mput_out (by rw [keys_gl]; exact hk)]; simp [gl]
  cases q with
  | none =>
    rw [if_pos (show (none : Option Nat).isNone = true from rfl)]
    have hl0 := hq rfl
    have D := C.mapNew Sd.V encB
    have D1 := D.swap.store o [.map (some w3.heap.size)] (by simp; omega)
    refine ⟨trivial, D.swap.there o 1 (by omega), D.swap.blkAt.2, _, fs D1, some w3.heap.size, by simp, fun w25 L26 h25 g25 => ?_⟩
    obtain ⟨w27, hr, hk27, D2⟩ := Ctx.mput (P := Try.prog) t84 key168 (D1.hidL h25 g25).swap v.key true
    have e0 : X.mput v.key true ([] : List (_ × Bool)) = gl ((l ++ [v]).map fun v => v.key) := by rw [← hmp, hl0]; rfl
    rw [e0] at D2
    have D3 := D2.pm [1, 0, 2] rfl
    refine ⟨w27, hr, hk27, _, fs D3, sl.1, l.length, sl.2, by simp, fun w32 L33 h32 g32 => ?_⟩
    have D4 := D3.hidL h32 g32
    have E0 := D4.alloc v.row 124
    have hcl : Cells _ ⟨w32.heap.size, 0, none⟩ v.row := E0.blkCells (o := 0) fun k u e => by simpa using e
    have E1 := E0.pm [3, 0, 1, 2] rfl
    obtain ⟨q2, c2, w37, hr2, hkk, E2⟩ := Ctx.app2 (P := Try.prog) (bytes := 120) (t := 75) (t2 := 75) E1 75 (by kernel_rfl) (.some ⟨w32.heap.size, 0, none⟩ 1 1 v.row rfl hcl) (by unfold maxLen; omega) (by omega) (td_one _)
    have E3 := E2.pk [2, 0, 3] [1] rfl
    refine ⟨fs (E0.pm [1, 0, 2, 3] rfl), q2, l.length + 1, c2, w37, hr2, hkk, fs E3, trivial, E3.there (o + 1) 1 (by simp only [splice_len ho]; omega), E3.blkAt.2, ?_⟩
    have E4 := E3.store (o + 1) [slV (q2, c2) (l.length + 1)] (by simp only [splice_len ho]; simp; omega)
    refine ⟨(some w3.heap.size, (q2, c2)), m, L33, by simp [hk], fun _ => by simp, ?_⟩
    rw [if_neg hk, e2]
    exact E4
  | some mp =>
    rw [if_neg (by simp)]
    have hsp : splice cs o [.map (some mp)] = cs := splice_self h0
    rw [← hsp] at C
    refine ⟨_, fs C, some mp, by simp, fun w10 L11 h10 g10 => ?_⟩
    obtain ⟨w27, hr, hk27, D2⟩ := Ctx.mput (P := Try.prog) t84 key168 (Ctx.pm (As := [_, _, mapA mp Sd.V encB (gl (l.map fun v => v.key))]) (C.hidL h10 g10) [2, 0, 1] rfl) v.key true
    rw [hmp] at D2
    have D3 := D2.pm [1, 0, 2] rfl
    refine ⟨w27, hr, hk27, _, fs D3, sl.1, l.length, sl.2, by simp, fun w32 L33 h32 g32 => ?_⟩
    have D4 := D3.hidL h32 g32
    have E0 := D4.alloc v.row 124
    have hcl : Cells _ ⟨w32.heap.size, 0, none⟩ v.row := E0.blkCells (o := 0) fun k u e => by simpa using e
    have E1 := E0.pm [3, 0, 1, 2] rfl
    obtain ⟨q2, c2, w37, hr2, hkk, E2⟩ := Ctx.app2 (P := Try.prog) (bytes := 120) (t := 75) (t2 := 75) E1 75 (by kernel_rfl) (.some ⟨w32.heap.size, 0, none⟩ 1 1 v.row rfl hcl) (by unfold maxLen; omega) (by omega) (td_one _)
    have E3 := E2.pk [2, 0, 3] [1] rfl
    refine ⟨fs (E0.pm [1, 0, 2, 3] rfl), q2, l.length + 1, c2, w37, hr2, hkk, fs E3, trivial, E3.there (o + 1) 1 (by simp only [splice_len ho]; omega), E3.blkAt.2, ?_⟩
    have E4 := E3.store (o + 1) [slV (q2, c2) (l.length + 1)] (by simp only [splice_len ho]; simp; omega)
    refine ⟨(some mp, (q2, c2)), m, L33, by simp [hk], fun _ => by simp, ?_⟩
    rw [if_neg hk, e2]
    exact E4
theorem c_noteS (b o : Nat) (cs : List Value) (q : Option Nat) (sl : Sl) (l : List St) (v : St) (h0 : cs[o]? = some (.map q)) (h1 : cs[o + 1]? = some (slV sl l.length)) (hq : q = none → l = []) (hl : l.length ≤ 100000) :
    Ctr Try.prog 64 #[.pointer (some ⟨b, o, none⟩), v.key.V, .agg v.row.toArray] noMem (blk b cs 92 :: slA (slV sl l.length) l.length (l.flatMap St.row) 128 5 :: mpL Pl.V q (l.map fun v => v.key))
      (fun _ : Option Nat × Sl => .bool (decide (v.key ∉ l.map fun v => v.key))) (fun i _ => v.key ∉ (l.map fun v => v.key) → i.1 ≠ none)
      (fun i => if v.key ∈ (l.map fun v => v.key) then blk b cs 92 :: slA (slV sl l.length) l.length (l.flatMap St.row) 128 5 :: mpL Pl.V q (l.map fun v => v.key)
        else blk b (splice (splice cs o [.map i.1]) (o + 1) [slV i.2 (l.length + 1)]) 92 :: slA (slV i.2 (l.length + 1)) (l.length + 1) ((l ++ [v]).flatMap St.row) 128 5 :: mpL Pl.V i.1 ((l ++ [v]).map fun v => v.key)) := by
  refine Ctr.mk fun w F m C _ => x_noteS _ _ _ _ _ _ _ _ _ _ _ _ w _ ?_
  simp only [Addr.add_mid, Nat.add_zero]
  have ho : o < cs.length := (List.getElem?_eq_some_iff.1 h0).1
  have ho1 : o + 1 < cs.length := (List.getElem?_eq_some_iff.1 h1).1
  have e2 : (l ++ [v]).flatMap St.row = l.flatMap St.row ++ v.row := by simp
  have fm : ∀ {w' L' m'} {As : List Asn}, Ctx F m w w' L' m' (blk b cs 92 :: As) → FactsW [(⟨b, o, none⟩, [.map q]), (⟨b, o + 1, none⟩, [slV sl l.length])] w' L' := fun C => C.blkFact1 o _ h0 (C.blkFact1 (o + 1) _ h1 (facts_nil _ _))
  refine ⟨_, fm C, q, by simp, fun w3 L4 h3 g3 => ?_⟩
  replace C := C.hidL h3 g3
  refine ⟨_, w3, gl_look t87 key173 C (fun e => by rw [hq e]; rfl) v.key, kept_refl _ _, fm C, ?_⟩
  by_cases hk : v.key ∈ l.map fun v => v.key
  · rw [if_pos (by simpa using hk)]
    refine ⟨(q, sl), m, L4, by simp [hk], fun h => absurd hk h, ?_⟩
    rw [if_pos hk]; exact C
  rw [if_neg (by simpa using hk)]
  refine ⟨q, C.blkCell h0, C.blkAt.2, ?_⟩
  have fs : ∀ {w' L' m'} {mp : Option Nat} {As : List Asn}, Ctx F m w w' L' m' (blk b (splice cs o [.map mp]) 92 :: As) → FactsW [(⟨b, o, none⟩, [.map mp]), (⟨b, o + 1, none⟩, [slV sl l.length])] w' L' := fun C => C.blkFact1 o _ (splice_eq ho) (C.blkFact1 (o + 1) _ (by rw [splice_ne ho _ (by omega)]; exact h1) (facts_nil _ _))
  have hmp : X.mput v.key true (gl (l.map fun v => v.key)) = gl ((l ++ [v]).map fun v => v.key) := by
    rw [mput_out (by rw [keys_gl]; exact hk)]; simp [gl]
  cases q with
  | none =>
    rw [if_pos (show (none : Option Nat).isNone = true from rfl)]
    have hl0 := hq rfl
    have D := C.mapNew Pl.V encB
    have D1 := D.swap.store o [.map (some w3.heap.size)] (by simp; omega)
    refine ⟨trivial, D.swap.there o 1 (by omega), D.swap.blkAt.2, _, fs D1, some w3.heap.size, by simp, fun w25 L26 h25 g25 => ?_⟩
    obtain ⟨w27, hr, hk27, D2⟩ := Ctx.mput (P := Try.prog) t87 key173 (D1.hidL h25 g25).swap v.key true
    have e0 : X.mput v.key true ([] : List (_ × Bool)) = gl ((l ++ [v]).map fun v => v.key) := by rw [← hmp, hl0]; rfl
    rw [e0] at D2
    have D3 := D2.pm [1, 0, 2] rfl
    refine ⟨w27, hr, hk27, _, fs D3, sl.1, l.length, sl.2, by simp, fun w32 L33 h32 g32 => ?_⟩
    have D4 := D3.hidL h32 g32
    have E0 := D4.alloc v.row 128
    have hcl : Cells _ ⟨w32.heap.size, 0, none⟩ v.row := E0.blkCells (o := 0) fun k u e => by simpa using e
    have E1 := E0.pm [3, 0, 1, 2] rfl
    obtain ⟨q2, c2, w37, hr2, hkk, E2⟩ := Ctx.app2 (P := Try.prog) (bytes := 120) (t := 77) (t2 := 77) E1 77 (by kernel_rfl) (.some ⟨w32.heap.size, 0, none⟩ 1 1 v.row rfl hcl) (by unfold maxLen; omega) (by omega) (st_one _)
    have E3 := E2.pk [2, 0, 3] [1] rfl
    refine ⟨fs (E0.pm [1, 0, 2, 3] rfl), q2, l.length + 1, c2, w37, hr2, hkk, fs E3, trivial, E3.there (o + 1) 1 (by simp only [splice_len ho]; omega), E3.blkAt.2, ?_⟩
    have E4 := E3.store (o + 1) [slV (q2, c2) (l.length + 1)] (by simp only [splice_len ho]; simp; omega)
    refine ⟨(some w3.heap.size, (q2, c2)), m, L33, by simp [hk], fun _ => by simp, ?_⟩
    rw [if_neg hk, e2]
    exact E4
  | some mp =>
    rw [if_neg (by simp)]
    have hsp : splice cs o [.map (some mp)] = cs := splice_self h0
    rw [← hsp] at C
    refine ⟨_, fs C, some mp, by simp, fun w10 L11 h10 g10 => ?_⟩
    obtain ⟨w27, hr, hk27, D2⟩ := Ctx.mput (P := Try.prog) t87 key173 (Ctx.pm (As := [_, _, mapA mp Pl.V encB (gl (l.map fun v => v.key))]) (C.hidL h10 g10) [2, 0, 1] rfl) v.key true
    rw [hmp] at D2
    have D3 := D2.pm [1, 0, 2] rfl
    refine ⟨w27, hr, hk27, _, fs D3, sl.1, l.length, sl.2, by simp, fun w32 L33 h32 g32 => ?_⟩
    have D4 := D3.hidL h32 g32
    have E0 := D4.alloc v.row 128
    have hcl : Cells _ ⟨w32.heap.size, 0, none⟩ v.row := E0.blkCells (o := 0) fun k u e => by simpa using e
    have E1 := E0.pm [3, 0, 1, 2] rfl
    obtain ⟨q2, c2, w37, hr2, hkk, E2⟩ := Ctx.app2 (P := Try.prog) (bytes := 120) (t := 77) (t2 := 77) E1 77 (by kernel_rfl) (.some ⟨w32.heap.size, 0, none⟩ 1 1 v.row rfl hcl) (by unfold maxLen; omega) (by omega) (st_one _)
    have E3 := E2.pk [2, 0, 3] [1] rfl
    refine ⟨fs (E0.pm [1, 0, 2, 3] rfl), q2, l.length + 1, c2, w37, hr2, hkk, fs E3, trivial, E3.there (o + 1) 1 (by simp only [splice_len ho]; omega), E3.blkAt.2, ?_⟩
    have E4 := E3.store (o + 1) [slV (q2, c2) (l.length + 1)] (by simp only [splice_len ho]; simp; omega)
    refine ⟨(some mp, (q2, c2)), m, L33, by simp [hk], fun _ => by simp, ?_⟩
    rw [if_neg hk, e2]
    exact E4
end Go.Proofs
namespace Go.Proofs
open Go X RowKit
/-! ### a made annal, whole -/
structure Rws (ρ : Type) where (q : Option Nat) (sl : Sl) (l : List ρ)
def rwA {ρ α : Type} [DecidableEq α] (row : ρ → List Value) (key : ρ → α) (enc : α → Value) (ty : TypeId) (k : Nat) (r : Rws ρ) : Asn := Asn.all (slA (slV r.sl r.l.length) r.l.length (r.l.flatMap row) ty k :: mpL enc r.q (r.l.map key))
abbrev rB (r : Rws Bg) : Asn := rwA Bg.row (fun v => v.id) I.V 112 14 r
abbrev rE (r : Rws Ed) : Asn := rwA Ed.row (fun v => v.id) I.V 116 17 r
abbrev rT (r : Rws Td) : Asn := rwA Td.row (fun v => v.key) Sd.V 124 17 r
abbrev rS (r : Rws St) : Asn := rwA St.row (fun v => v.key) Pl.V 128 5 r
structure Fa where (B : Rws Bg) (E : Rws Ed) (T : Rws Td) (S : Rws St) (o : Nat → List En) (sp : Int)
@[reducible] def Fa.an (f : Fa) : An := ⟨[.map f.B.q, slV f.B.sl f.B.l.length, .map f.E.q, slV f.E.sl f.E.l.length, .map f.T.q, slV f.T.sl f.T.l.length, .map f.S.q, slV f.S.sl f.S.l.length], f.o, f.sp⟩
abbrev Fa.rs (f : Fa) : List Asn := [rB f.B, rE f.E, rT f.T, rS f.S]
abbrev Fa.as (f : Fa) (b : Nat) : List Asn := anA b f.an :: f.rs
structure Fa.M (f : Fa) (m : Mem) : Prop where
  e : ∀ g, ∀ e ∈ f.o g, EnM m e
  b : ∀ v ∈ f.B.l, v.M m
  t : ∀ v ∈ f.T.l, v.v.M m
  s : ∀ v ∈ f.S.l, v.v.M m
  qb : f.B.q = none → f.B.l = []
  qe : f.E.q = none → f.E.l = []
  qt : f.T.q = none → f.T.l = []
  qs : f.S.q = none → f.S.l = []
theorem Fa.M.mono {f : Fa} {m m' : Mem} (h : f.M m) (hm : m.le m') : f.M m' := ⟨fun g e he => (h.e g e he).mono hm, fun v hv => MSrc.mono (h.b v hv) hm, fun v hv => MSrc.mono (h.t v hv) hm, fun v hv => MSrc.mono (h.s v hv) hm, h.qb, h.qe, h.qt, h.qs⟩
theorem Fa.M.an {f : Fa} {m : Mem} (h : f.M m) : AnM m f.an := ⟨rfl, h.e⟩
/-- few of all -/
structure Fa.few (f : Fa) : Prop where
  b : f.B.l.length ≤ 100000
  e : f.E.l.length ≤ 100000
  t : f.T.l.length ≤ 100000
  s : f.S.l.length ≤ 100000
/-! ### wherever its lists lie -/
def Bg.er (b : Bg) : Bg := b.at' (none, 0)
def Td.er (t : Td) : Td := t.at_ (none, 0)
def St.er (s : St) : St := s.at_ (none, 0)
structure Fv where (B : List Bg) (E : List Ed) (T : List Td) (S : List St) (o : Nat → List Ev) (sp : Int)
def Fa.er (f : Fa) : Fv := ⟨f.B.l.map Bg.er, f.E.l, f.T.l.map Td.er, f.S.l.map St.er, fun g => (f.o g).map En.er, f.sp⟩
def beginV (s : Fv) (v : Bg) : Bool × Fv := if v.id ∈ s.B.map (fun v => v.id) then (false, s) else (true, { s with B := s.B ++ [v.er] })
def endV (s : Fv) (v : Ed) : Bool × Fv := if v.id ∉ s.B.map (fun v => v.id) ∨ v.id ∈ s.E.map (fun v => v.id) then (false, s) else (true, { s with E := s.E ++ [v] })
def tellV (s : Fv) (v : Td) : Bool × Fv := if v.key ∈ s.T.map (fun v => v.key) then (false, s) else (true, { s with T := s.T ++ [v.er] })
def sitV (s : Fv) (v : St) : Bool × Fv := if v.key ∈ s.S.map (fun v => v.key) then (false, s) else (true, { s with S := s.S ++ [v.er] })
theorem er_B (f : Fa) : f.er.B.map (fun v => v.id) = f.B.l.map (fun v => v.id) := by show (f.B.l.map Bg.er).map _ = _; rw [List.map_map]; rfl
theorem er_T (f : Fa) : f.er.T.map (fun v => v.key) = f.T.l.map (fun v => v.key) := by show (f.T.l.map Td.er).map _ = _; rw [List.map_map]; rfl
theorem er_S (f : Fa) : f.er.S.map (fun v => v.key) = f.S.l.map (fun v => v.key) := by show (f.S.l.map St.er).map _ = _; rw [List.map_map]; rfl
section
variable {F0 : List Nat} {m0 : Mem} {w0 w : World} {L : List Nat} {m : Mem} {f : Fa} {b : Nat}
theorem opB (C : Ctx F0 m0 w0 w L m (f.as b)) : ∃ p : Nat → Sl, Ctx F0 m0 w0 w L m ((blk b (f.an.cells p) 92 :: slA (slV f.B.sl f.B.l.length) f.B.l.length (f.B.l.flatMap Bg.row) 112 14 :: mpL I.V f.B.q (f.B.l.map fun v => v.id)) ++ [ensA (p 0) (f.o 0), ensA (p 1) (f.o 1), ensA (p 2) (f.o 2), ensA (p 3) (f.o 3), rE f.E, rT f.T, rS f.S]) := by
  obtain ⟨p, C⟩ := anO C
  exact ⟨p, (Ctx.all (C.pm [5, 0, 1, 2, 3, 4, 6, 7, 8] rfl)).perm List.perm_middle⟩
theorem clB {p : Nat → Sl} {q : Option Nat} {sl : Sl} {l : List Bg} {n : Nat} {cs : List Value} (hn : n = l.length) (hc : cs = (Fa.an { f with B := ⟨q, sl, l⟩ }).cells p) (C : Ctx F0 m0 w0 w L m ((blk b cs 92 :: slA (slV sl n) n (l.flatMap Bg.row) 112 14 :: mpL I.V q (l.map fun v => v.id)) ++ [ensA (p 0) (f.o 0), ensA (p 1) (f.o 1), ensA (p 2) (f.o 2), ensA (p 3) (f.o 3), rE f.E, rT f.T, rS f.S])) : Ctx F0 m0 w0 w L m (Fa.as { f with B := ⟨q, sl, l⟩ } b) := by
  subst hn; subst hc
  have D : Ctx F0 m0 w0 w L m (rB ⟨q, sl, l⟩ :: blk b ((Fa.an { f with B := ⟨q, sl, l⟩ }).cells p) 92 :: [ensA (p 0) (f.o 0), ensA (p 1) (f.o 1), ensA (p 2) (f.o 2), ensA (p 3) (f.o 3), rE f.E, rT f.T, rS f.S]) := Ctx.allI (C.perm List.perm_middle.symm)
  exact anI p (D.pm [1, 2, 3, 4, 5, 0, 6, 7, 8] rfl)
theorem opE (C : Ctx F0 m0 w0 w L m (f.as b)) : ∃ p : Nat → Sl, Ctx F0 m0 w0 w L m ((blk b (f.an.cells p) 92 :: slA (slV f.E.sl f.E.l.length) f.E.l.length (f.E.l.flatMap Ed.row) 116 17 :: mpL I.V f.E.q (f.E.l.map fun v => v.id)) ++ [ensA (p 0) (f.o 0), ensA (p 1) (f.o 1), ensA (p 2) (f.o 2), ensA (p 3) (f.o 3), rB f.B, rT f.T, rS f.S]) := by
  obtain ⟨p, C⟩ := anO C
  exact ⟨p, (Ctx.all (C.pm [6, 0, 1, 2, 3, 4, 5, 7, 8] rfl)).perm List.perm_middle⟩
theorem clE {p : Nat → Sl} {q : Option Nat} {sl : Sl} {l : List Ed} {n : Nat} {cs : List Value} (hn : n = l.length) (hc : cs = (Fa.an { f with E := ⟨q, sl, l⟩ }).cells p) (C : Ctx F0 m0 w0 w L m ((blk b cs 92 :: slA (slV sl n) n (l.flatMap Ed.row) 116 17 :: mpL I.V q (l.map fun v => v.id)) ++ [ensA (p 0) (f.o 0), ensA (p 1) (f.o 1), ensA (p 2) (f.o 2), ensA (p 3) (f.o 3), rB f.B, rT f.T, rS f.S])) : Ctx F0 m0 w0 w L m (Fa.as { f with E := ⟨q, sl, l⟩ } b) := by
  subst hn; subst hc
  have D : Ctx F0 m0 w0 w L m (rE ⟨q, sl, l⟩ :: blk b ((Fa.an { f with E := ⟨q, sl, l⟩ }).cells p) 92 :: [ensA (p 0) (f.o 0), ensA (p 1) (f.o 1), ensA (p 2) (f.o 2), ensA (p 3) (f.o 3), rB f.B, rT f.T, rS f.S]) := Ctx.allI (C.perm List.perm_middle.symm)
  exact anI p (D.pm [1, 2, 3, 4, 5, 6, 0, 7, 8] rfl)
theorem opT (C : Ctx F0 m0 w0 w L m (f.as b)) : ∃ p : Nat → Sl, Ctx F0 m0 w0 w L m ((blk b (f.an.cells p) 92 :: slA (slV f.T.sl f.T.l.length) f.T.l.length (f.T.l.flatMap Td.row) 124 17 :: mpL Sd.V f.T.q (f.T.l.map fun v => v.key)) ++ [ensA (p 0) (f.o 0), ensA (p 1) (f.o 1), ensA (p 2) (f.o 2), ensA (p 3) (f.o 3), rB f.B, rE f.E, rS f.S]) := by
  obtain ⟨p, C⟩ := anO C
  exact ⟨p, (Ctx.all (C.pm [7, 0, 1, 2, 3, 4, 5, 6, 8] rfl)).perm List.perm_middle⟩
theorem clT {p : Nat → Sl} {q : Option Nat} {sl : Sl} {l : List Td} {n : Nat} {cs : List Value} (hn : n = l.length) (hc : cs = (Fa.an { f with T := ⟨q, sl, l⟩ }).cells p) (C : Ctx F0 m0 w0 w L m ((blk b cs 92 :: slA (slV sl n) n (l.flatMap Td.row) 124 17 :: mpL Sd.V q (l.map fun v => v.key)) ++ [ensA (p 0) (f.o 0), ensA (p 1) (f.o 1), ensA (p 2) (f.o 2), ensA (p 3) (f.o 3), rB f.B, rE f.E, rS f.S])) : Ctx F0 m0 w0 w L m (Fa.as { f with T := ⟨q, sl, l⟩ } b) := by
  subst hn; subst hc
  have D : Ctx F0 m0 w0 w L m (rT ⟨q, sl, l⟩ :: blk b ((Fa.an { f with T := ⟨q, sl, l⟩ }).cells p) 92 :: [ensA (p 0) (f.o 0), ensA (p 1) (f.o 1), ensA (p 2) (f.o 2), ensA (p 3) (f.o 3), rB f.B, rE f.E, rS f.S]) := Ctx.allI (C.perm List.perm_middle.symm)
  exact anI p (D.pm [1, 2, 3, 4, 5, 6, 7, 0, 8] rfl)
theorem opS (C : Ctx F0 m0 w0 w L m (f.as b)) : ∃ p : Nat → Sl, Ctx F0 m0 w0 w L m ((blk b (f.an.cells p) 92 :: slA (slV f.S.sl f.S.l.length) f.S.l.length (f.S.l.flatMap St.row) 128 5 :: mpL Pl.V f.S.q (f.S.l.map fun v => v.key)) ++ [ensA (p 0) (f.o 0), ensA (p 1) (f.o 1), ensA (p 2) (f.o 2), ensA (p 3) (f.o 3), rB f.B, rE f.E, rT f.T]) := by
  obtain ⟨p, C⟩ := anO C
  exact ⟨p, (Ctx.all (C.pm [8, 0, 1, 2, 3, 4, 5, 6, 7] rfl)).perm List.perm_middle⟩
theorem clS {p : Nat → Sl} {q : Option Nat} {sl : Sl} {l : List St} {n : Nat} {cs : List Value} (hn : n = l.length) (hc : cs = (Fa.an { f with S := ⟨q, sl, l⟩ }).cells p) (C : Ctx F0 m0 w0 w L m ((blk b cs 92 :: slA (slV sl n) n (l.flatMap St.row) 128 5 :: mpL Pl.V q (l.map fun v => v.key)) ++ [ensA (p 0) (f.o 0), ensA (p 1) (f.o 1), ensA (p 2) (f.o 2), ensA (p 3) (f.o 3), rB f.B, rE f.E, rT f.T])) : Ctx F0 m0 w0 w L m (Fa.as { f with S := ⟨q, sl, l⟩ } b) := by
  subst hn; subst hc
  have D : Ctx F0 m0 w0 w L m (rS ⟨q, sl, l⟩ :: blk b ((Fa.an { f with S := ⟨q, sl, l⟩ }).cells p) 92 :: [ensA (p 0) (f.o 0), ensA (p 1) (f.o 1), ensA (p 2) (f.o 2), ensA (p 3) (f.o 3), rB f.B, rE f.E, rT f.T]) := Ctx.allI (C.perm List.perm_middle.symm)
  exact anI p (D.pm [1, 2, 3, 4, 5, 6, 7, 8, 0] rfl)
end
theorem c_Begin (b : Nat) (f : Fa) (v : Bg) (hl : v.ps.length * 48 ≤ 140737488355328) (hf : f.few) : Ctr Try.prog 25 #[.pointer (some ⟨b, 0, none⟩), .agg v.row.toArray] (fun m => f.M m ∧ v.M m) (f.as b)
    (fun _ : Fa => .bool (beginV f.er v).1) (fun g m => g.M m ∧ g.er = (beginV f.er v).2) (fun g => g.as b) := by
  refine Ctr.mk fun w F m C hp => x_Begin _ _ _ _ _ _ _ _ _ _ _ _ _ _ _ _ _ w _ fun w1 L2 h1 g1 => ?_
  obtain ⟨hM, hv⟩ := hp
  refine (c_CloneP v.pq v.ps hl).call (As := f.as b) (C.hidL h1 g1) hv fun p m1 w4 hk hm1 hpM C => ⟨_, _, _, rfl, hk, [], facts_nil _ _, fun w9 L10 h9 g9 => ?_⟩
  refine (c_none b f.an rfl).call (As := f.rs) (C.hidL h9 g9) trivial fun _ m2 w12 hk hm2 _ C => ⟨_, rfl, hk, facts_nil _ _, [], facts_nil _ _, fun _ h => h, ?_⟩
  replace hM := hM.mono (hm1.le_trans hm2)
  replace hpM : Bg.M m2 (v.at' p) := MSrc.mono hpM hm2
  rw [if_pos (by decide), show ((⟨b, 0, none⟩ : Addr).add 0) = ⟨b, 0, none⟩ by rw [Addr.add_mid]]
  obtain ⟨p', C⟩ := opB (f := f) C
  have ev : beginV f.er v = if (v.at' p).id ∈ f.B.l.map (fun v => v.id) then (false, f.er) else (true, { f.er with B := f.er.B ++ [v.er] }) := by rw [beginV, er_B]; rfl
  refine (c_noteB b 0 _ f.B.q f.B.sl f.B.l (v.at' p) rfl rfl hM.qb hf.b).call C trivial fun i m3 w17 hk hm3 hi C => ⟨_, rfl, hk, ?_⟩
  by_cases hkk : (v.at' p).id ∈ f.B.l.map fun v => v.id
  · rw [if_pos hkk] at C
    have D := clB (f := f) (q := f.B.q) (sl := f.B.sl) (l := f.B.l) rfl rfl C
    refine Ctr.ret (m' := m3) f (by rw [ev, if_pos hkk]; simp [hkk]) ⟨hM.mono hm3, by rw [ev, if_pos hkk]⟩ D
  · rw [if_neg hkk] at C
    have D := clB (f := f) (q := i.1) (sl := i.2) (l := f.B.l ++ [v.at' p]) (by simp) (by simp only [Fa.an, An.cells, List.length_append, List.length_singleton]; rfl) C
    refine Ctr.ret (m' := m3) { f with B := ⟨i.1, i.2, f.B.l ++ [v.at' p]⟩ } (by rw [ev, if_neg hkk]; simp [hkk]) ⟨⟨(hM.mono hm3).e, fun u hu => by rcases List.mem_append.1 hu with hu | hu; exact (hM.mono hm3).b u hu; simp at hu; subst hu; exact MSrc.mono hpM hm3, (hM.mono hm3).t, (hM.mono hm3).s, fun h => absurd h (hi hkk), hM.qe, hM.qt, hM.qs⟩, by rw [ev, if_neg hkk]; simp [Fa.er]; rfl⟩ D
theorem c_Tell (b : Nat) (f : Fa) (v : Td) (hl : v.v.ps.length * 48 ≤ 140737488355328) (hf : f.few) : Ctr Try.prog 30 #[.pointer (some ⟨b, 0, none⟩), .agg v.row.toArray] (fun m => f.M m ∧ v.v.M m) (f.as b)
    (fun _ : Fa => .bool (tellV f.er v).1) (fun g m => g.M m ∧ g.er = (tellV f.er v).2) (fun g => g.as b) := by
  refine Ctr.mk fun w F m C hp => x_Tell _ _ _ _ _ _ _ _ _ _ _ _ _ _ _ _ _ _ _ _ w _ fun w1 L2 h1 g1 => ?_
  obtain ⟨hM, hv⟩ := hp
  refine (c_CloneV v.v hl).call (As := f.as b) (C.hidL h1 g1) hv fun p m1 w4 hk hm1 hpM C => ⟨_, _, _, _, _, rfl, hk, [], facts_nil _ _, fun w9 L10 h9 g9 => ?_⟩
  refine (c_none b f.an rfl).call (As := f.rs) (C.hidL h9 g9) trivial fun _ m2 w12 hk hm2 _ C => ⟨_, rfl, hk, facts_nil _ _, [], facts_nil _ _, fun _ h => h, ?_⟩
  replace hM := hM.mono (hm1.le_trans hm2)
  replace hpM : (v.at_ p).v.M m2 := MSrc.mono hpM hm2
  rw [if_pos (by decide), show ((⟨b, 0, none⟩ : Addr).add 4) = ⟨b, 4, none⟩ by rw [Addr.add_mid]]
  refine C.gives (c_of (v.v.at_ p)) fun w19 k19 C => ⟨_, _, rfl, k19, facts_nil _ _, ?_⟩
  obtain ⟨p', C⟩ := opT (f := f) C
  have ev : tellV f.er v = if (v.at_ p).key ∈ f.T.l.map (fun v => v.key) then (false, f.er) else (true, { f.er with T := f.er.T ++ [v.er] }) := by rw [tellV, er_T]; rfl
  refine (c_noteT b 4 _ f.T.q f.T.sl f.T.l (v.at_ p) rfl rfl hM.qt hf.t).call C trivial fun i m3 w17 hk hm3 hi C => ⟨_, rfl, hk, facts_nil _ _, ?_⟩
  by_cases hkk : (v.at_ p).key ∈ f.T.l.map fun v => v.key
  · rw [if_pos hkk] at C
    have D := clT (f := f) (q := f.T.q) (sl := f.T.sl) (l := f.T.l) rfl rfl C
    refine Ctr.ret (m' := m3) f (by rw [ev, if_pos hkk]; simp [hkk]) ⟨hM.mono hm3, by rw [ev, if_pos hkk]⟩ D
  · rw [if_neg hkk] at C
    have D := clT (f := f) (q := i.1) (sl := i.2) (l := f.T.l ++ [v.at_ p]) (by simp) (by simp only [Fa.an, An.cells, List.length_append, List.length_singleton]; rfl) C
    refine Ctr.ret (m' := m3) { f with T := ⟨i.1, i.2, f.T.l ++ [v.at_ p]⟩ } (by rw [ev, if_neg hkk]; simp [hkk]) ⟨⟨(hM.mono hm3).e, (hM.mono hm3).b, fun u hu => by rcases List.mem_append.1 hu with hu | hu; exact (hM.mono hm3).t u hu; simp at hu; subst hu; exact MSrc.mono hpM hm3, (hM.mono hm3).s, hM.qb, hM.qe, fun h => absurd h (hi hkk), hM.qs⟩, by rw [ev, if_neg hkk]; simp [Fa.er]; rfl⟩ D
theorem c_Sit (b : Nat) (f : Fa) (v : St) (hl : v.v.ps.length * 48 ≤ 140737488355328) (hf : f.few) : Ctr Try.prog 32 #[.pointer (some ⟨b, 0, none⟩), .agg v.row.toArray] (fun m => f.M m ∧ v.v.M m) (f.as b)
    (fun _ : Fa => .bool (sitV f.er v).1) (fun g m => g.M m ∧ g.er = (sitV f.er v).2) (fun g => g.as b) := by
  refine Ctr.mk fun w F m C hp => x_Sit _ _ _ _ _ _ _ _ w _ fun w1 L2 h1 g1 => ?_
  obtain ⟨hM, hv⟩ := hp
  refine (c_CloneV v.v hl).call (As := f.as b) (C.hidL h1 g1) hv fun p m1 w4 hk hm1 hpM C => ⟨_, _, _, _, _, rfl, hk, [], facts_nil _ _, fun w9 L10 h9 g9 => ?_⟩
  refine (c_none b f.an rfl).call (As := f.rs) (C.hidL h9 g9) trivial fun _ m2 w12 hk hm2 _ C => ⟨_, rfl, hk, facts_nil _ _, [], facts_nil _ _, fun _ h => h, ?_⟩
  replace hM := hM.mono (hm1.le_trans hm2)
  replace hpM : (v.at_ p).v.M m2 := MSrc.mono hpM hm2
  rw [if_pos (by decide), show ((⟨b, 0, none⟩ : Addr).add 6) = ⟨b, 6, none⟩ by rw [Addr.add_mid]]
  refine C.gives (c_of (v.v.at_ p)) fun w19 k19 C => ⟨_, _, rfl, k19, facts_nil _ _, ?_⟩
  obtain ⟨p', C⟩ := opS (f := f) C
  have ev : sitV f.er v = if (v.at_ p).key ∈ f.S.l.map (fun v => v.key) then (false, f.er) else (true, { f.er with S := f.er.S ++ [v.er] }) := by rw [sitV, er_S]; rfl
  refine (c_noteS b 6 _ f.S.q f.S.sl f.S.l (v.at_ p) rfl rfl hM.qs hf.s).call C trivial fun i m3 w17 hk hm3 hi C => ⟨_, rfl, hk, facts_nil _ _, ?_⟩
  by_cases hkk : (v.at_ p).key ∈ f.S.l.map fun v => v.key
  · rw [if_pos hkk] at C
    have D := clS (f := f) (q := f.S.q) (sl := f.S.sl) (l := f.S.l) rfl rfl C
    refine Ctr.ret (m' := m3) f (by rw [ev, if_pos hkk]; simp [hkk]) ⟨hM.mono hm3, by rw [ev, if_pos hkk]⟩ D
  · rw [if_neg hkk] at C
    have D := clS (f := f) (q := i.1) (sl := i.2) (l := f.S.l ++ [v.at_ p]) (by simp) (by simp only [Fa.an, An.cells, List.length_append, List.length_singleton]; rfl) C
    refine Ctr.ret (m' := m3) { f with S := ⟨i.1, i.2, f.S.l ++ [v.at_ p]⟩ } (by rw [ev, if_neg hkk]; simp [hkk]) ⟨⟨(hM.mono hm3).e, (hM.mono hm3).b, (hM.mono hm3).t, fun u hu => by rcases List.mem_append.1 hu with hu | hu; exact (hM.mono hm3).s u hu; simp at hu; subst hu; exact MSrc.mono hpM hm3,  hM.qb, hM.qe, hM.qt, fun h => absurd h (hi hkk)⟩, by rw [ev, if_neg hkk]; simp [Fa.er]; rfl⟩ D
end Go.Proofs
namespace Go.Proofs
open Go X RowKit
section
variable {F0 : List Nat} {m0 : Mem} {w0 w : World} {L : List Nat} {m : Mem} {f : Fa} {b : Nat}
theorem fcAn (C : Ctx F0 m0 w0 w L m (f.as b)) : FactsW [(⟨b, 0, none⟩, [.map f.B.q])] w L := by
  obtain ⟨p, C⟩ := anO C
  exact C.blkFact1 0 _ rfl (facts_nil _ _)
theorem look_B (C : Ctx F0 m0 w0 w L m (f.as b)) (hq : f.B.q = none → f.B.l = []) (x : I) : (Instr.lookup 79 (.map f.B.q) x.V false).run Try.prog w = .ok (.bool (decide (x ∈ f.B.l.map fun v => v.id))) w := by
  obtain ⟨p, C⟩ := opB C
  exact gl_look t79 key102 (Ctx.left C) (fun e => by rw [hq e]; rfl) x
end
theorem c_End (b : Nat) (f : Fa) (v : Ed) (hf : f.few) : Ctr Try.prog 27 #[.pointer (some ⟨b, 0, none⟩), .agg v.row.toArray] (fun m => f.M m) (f.as b)
    (fun _ : Fa => .bool (endV f.er v).1) (fun g m => g.M m ∧ g.er = (endV f.er v).2) (fun g => g.as b) := by
  refine Ctr.mk fun w F m C hM => x_End _ _ _ _ _ _ _ _ _ _ _ _ _ _ _ _ _ _ w _ ⟨_, fcAn C, fun w2 L3 h2 g2 => ?_⟩
  refine (c_none b f.an rfl).call (As := f.rs) (C.hidL h2 g2) trivial fun _ m1 w5 hk hm1 _ C => ⟨_, rfl, hk, fcAn C, _, fcAn C, fun _ h => h, ?_⟩
  replace hM := hM.mono hm1
  have C : Ctx F m w w5 L3 m1 (f.as b) := C
  rw [if_pos (by decide)]
  have hev : endV f.er v = if v.id ∉ f.B.l.map (fun v => v.id) ∨ v.id ∈ f.E.l.map (fun v => v.id) then (false, f.er) else (true, { f.er with E := f.er.E ++ [v] }) := by rw [endV, er_B]; rfl
  refine ⟨f.B.q, by simp [Addr.add_mid], _, w5, look_B C hM.qb v.id, kept_refl _ _, fcAn C, _, fcAn C, fun _ h => h, ?_⟩
  by_cases hb : v.id ∈ f.B.l.map fun v => v.id
  rotate_left
  · rw [if_neg (by simpa using hb)]
    exact Ctr.ret (m' := m1) f (by rw [hev, if_pos (.inl hb)]) ⟨hM, by rw [hev, if_pos (.inl hb)]⟩ C
  rw [if_pos (by simpa using hb), show ((⟨b, 0, none⟩ : Addr).add 2) = ⟨b, 2, none⟩ by rw [Addr.add_mid]]
  obtain ⟨p', C⟩ := opE (f := f) C
  have ev : endV f.er v = if v.id ∈ f.E.l.map (fun v => v.id) then (false, f.er) else (true, { f.er with E := f.er.E ++ [v] }) := by
    rw [hev]
    by_cases h : v.id ∈ f.E.l.map (fun v => v.id)
    · rw [if_pos (.inr h), if_pos h]
    · rw [if_neg (fun h2 => h2.elim (fun h3 => h3 hb) h), if_neg h]
  refine (c_noteE b 2 _ f.E.q f.E.sl f.E.l v rfl rfl hM.qe hf.e).call C trivial fun i m3 w17 hk hm3 hi C => ⟨_, rfl, hk, ?_⟩
  by_cases hkk : v.id ∈ f.E.l.map fun v => v.id
  · rw [if_pos hkk] at C
    have D := clE (f := f) (q := f.E.q) (sl := f.E.sl) (l := f.E.l) rfl rfl C
    exact ⟨fcAn D, Ctr.ret (m' := m3) f (by rw [ev, if_pos hkk]; simp [hkk]) ⟨hM.mono hm3, by rw [ev, if_pos hkk]⟩ D⟩
  · rw [if_neg hkk] at C
    have D := clE (f := f) (q := i.1) (sl := i.2) (l := f.E.l ++ [v]) (by simp) (by simp only [Fa.an, An.cells, List.length_append, List.length_singleton]; rfl) C
    have fd := fcAn D
    refine ⟨fd, Ctr.ret (m' := m3) { f with E := ⟨i.1, i.2, f.E.l ++ [v]⟩ } (by rw [ev, if_neg hkk]; simp [hkk]) ⟨⟨(hM.mono hm3).e, (hM.mono hm3).b, (hM.mono hm3).t, (hM.mono hm3).s, hM.qb, fun h => absurd h (hi hkk), hM.qt, hM.qs⟩, by rw [ev, if_neg hkk]; rfl⟩ D⟩
def updE (o : Nat → List Ev) (g : Nat) (l : List Ev) : Nat → List Ev := fun k => if k = g then l else o k
def commitV (s : Fv) (g : Int) (c : Int) (e : Ev) : Bool × Fv :=
  if g ≥ 4 ∨ c < 0 ∨ c > (s.o g.toNat).length then (false, s)
  else if c = (s.o g.toNat).length then (true, { s with o := updE s.o g.toNat (s.o g.toNat ++ [e]) })
  else match (s.o g.toNat)[c.toNat]? with
    | some y => if y = e then (true, s) else (false, { s with sp := s.sp + 1 })
    | none => (false, s)
/-- the whole annal behind a Commit -/
def Fa.com (f : Fa) (x : An) : Fa := { f with o := x.o, sp := x.sp }
theorem com_an (f : Fa) (g : Nat) (c : Int) (e y : En) : (f.com (commitF f.an g c e y).2).an = (commitF f.an g c e y).2 := by
  unfold commitF
  split
  · rfl
  · split
    · rfl
    · split
      · split <;> rfl
      · rfl
theorem com_er (f : Fa) (g : Nat) (hg : g < 4) (c : Int) (e y : En) (hy : y.er = e.er) : (commitF f.an g c e y).1 = (commitV f.er g c e.er).1 ∧ (f.com (commitF f.an g c e y).2).er = (commitV f.er g c e.er).2 := by
  have hlen : (f.er.o g).length = (f.o g).length := by show ((f.o g).map En.er).length = _; simp
  have hget : (f.er.o g)[c.toNat]? = ((f.o g)[c.toNat]?).map En.er := by show ((f.o g).map En.er)[c.toNat]? = _; simp
  unfold commitF commitV
  simp only [Int.toNat_natCast, hlen, hget]
  by_cases h1 : c < 0 ∨ c > (f.o g).length
  · rw [if_pos h1, if_pos (.inr h1)]; exact ⟨rfl, rfl⟩
  rw [if_neg h1, if_neg (show ¬ ((g : Int) ≥ 4 ∨ c < 0 ∨ c > (f.o g).length) from fun h => h.elim (fun h => by omega) h1)]
  by_cases h2 : c = (f.o g).length
  · rw [if_pos h2, if_pos h2]
    refine ⟨rfl, ?_⟩
    have : (fun k => (updO f.o g (f.o g ++ [y]) k).map En.er) = updE f.er.o g (f.er.o g ++ [e.er]) := by
      funext k; unfold updO updE; split
      · rename_i hk; subst hk; show (f.o k ++ [y]).map En.er = (f.o k).map En.er ++ [e.er]; simp [hy]
      · rfl
    show Fv.mk _ _ _ _ (fun k => (updO f.o g (f.o g ++ [y]) k).map En.er) _ = _
    rw [this]; rfl
  rw [if_neg h2, if_neg h2]
  cases hx : (f.o g)[c.toNat]? with
  | none => exact ⟨rfl, rfl⟩
  | some z =>
    simp only [Option.map_some]
    split <;> exact ⟨rfl, rfl⟩
theorem c_CommitA (b : Nat) (f : Fa) (g : Int) (hg : 0 ≤ g) (c : Int) (hc1 : -9223372036854775808 ≤ c ∧ c < 9223372036854775808) (e : En) (hl : ∀ k, (f.o k).length ≤ 100000) (hs : 0 ≤ f.sp ∧ f.sp < 1000000) :
    Ctr Try.prog 22 #[.pointer (some ⟨b, 0, none⟩), .int .u8 g, .int .i64 c, .agg e.row.toArray] (fun m => f.M m ∧ EnM m e) (f.as b) (fun _ : Fa => .bool (commitV f.er g c e.er).1) (fun h m => h.M m ∧ h.er = (commitV f.er g c e.er).2) (fun h => h.as b) := by
  by_cases hg4 : g < 4
  rotate_left
  · refine Ctr.mk fun w F m C hp => x_annal_Annal_Commit _ _ _ _ _ _ _ _ _ _ _ _ _ _ _ _ _ _ _ _ _ _ _ _ _ w _ fun w1 L2 h1 g1 => ?_
    obtain ⟨hM, he⟩ := hp
    refine (c_none b f.an rfl).call (As := f.rs) (C.hidL h1 g1) trivial fun _ m1 w4 hk hm _ C => ⟨_, rfl, hk, ?_⟩
    rw [if_neg (by simp; omega)]
    have ev : commitV f.er g c e.er = (false, f.er) := by rw [commitV, if_pos (.inl (by omega))]
    exact Ctr.ret (m' := m1) f (by rw [ev]) ⟨hM.mono hm, by rw [ev]⟩ C
  · obtain ⟨k, rfl⟩ := Int.eq_ofNat_of_zero_le hg
    have hk4 : k < 4 := by omega
    refine Ctr.mk fun w F m C hp => (c_Commit b f.an k hk4 c hc1 e (hl k) hs).calls (As := f.rs) C ⟨hp.1.an, hp.2⟩ fun y m1 w1 hk hm hy C => ?_
    obtain ⟨r1, r2⟩ := com_er f k hk4 c e y hy.2
    have hM := hp.1.mono hm
    refine ⟨f.com (commitF f.an k c e y).2, m1, [], by rw [r1], ⟨⟨?_, hM.b, hM.t, hM.s, hM.qb, hM.qe, hM.qt, hM.qs⟩, r2⟩, ?_⟩
    · have := hy.1.e
      exact this
    · show Ctx F m w w1 [] m1 (anA b (f.com (commitF f.an k c e y).2).an :: (f.com (commitF f.an k c e y).2).rs)
      rw [com_an]
      exact C.noL
end Go.Proofs
namespace Go.Proofs
open Go X RowKit
abbrev qB (b : Nat) (f : Fa) (p : Nat → Sl) : List Asn := (blk b (f.an.cells p) 92 :: slA (slV f.B.sl f.B.l.length) f.B.l.length (f.B.l.flatMap Bg.row) 112 14 :: mpL I.V f.B.q (f.B.l.map fun v => v.id)) ++ [ensA (p 0) (f.o 0), ensA (p 1) (f.o 1), ensA (p 2) (f.o 2), ensA (p 3) (f.o 3), rE f.E, rT f.T, rS f.S]
abbrev qE (b : Nat) (f : Fa) (p : Nat → Sl) : List Asn := (blk b (f.an.cells p) 92 :: slA (slV f.E.sl f.E.l.length) f.E.l.length (f.E.l.flatMap Ed.row) 116 17 :: mpL I.V f.E.q (f.E.l.map fun v => v.id)) ++ [ensA (p 0) (f.o 0), ensA (p 1) (f.o 1), ensA (p 2) (f.o 2), ensA (p 3) (f.o 3), rB f.B, rT f.T, rS f.S]
abbrev qT (b : Nat) (f : Fa) (p : Nat → Sl) : List Asn := (blk b (f.an.cells p) 92 :: slA (slV f.T.sl f.T.l.length) f.T.l.length (f.T.l.flatMap Td.row) 124 17 :: mpL Sd.V f.T.q (f.T.l.map fun v => v.key)) ++ [ensA (p 0) (f.o 0), ensA (p 1) (f.o 1), ensA (p 2) (f.o 2), ensA (p 3) (f.o 3), rB f.B, rE f.E, rS f.S]
abbrev qS (b : Nat) (f : Fa) (p : Nat → Sl) : List Asn := (blk b (f.an.cells p) 92 :: slA (slV f.S.sl f.S.l.length) f.S.l.length (f.S.l.flatMap St.row) 128 5 :: mpL Pl.V f.S.q (f.S.l.map fun v => v.key)) ++ [ensA (p 0) (f.o 0), ensA (p 1) (f.o 1), ensA (p 2) (f.o 2), ensA (p 3) (f.o 3), rB f.B, rE f.E, rT f.T]
theorem c_Begins (b : Nat) (f : Fa) (hb : ∀ v ∈ f.B.l, v.ps.length * 48 ≤ 140737488355328) (hf : f.few) : Ctr Try.prog 15 #[.pointer (some ⟨b, 0, none⟩)] (fun m => f.M m) (f.as b) (fun i : Sl × List Bg => slV i.1 i.2.length)
    (fun i m => MSrc m 14 (slV i.1 i.2.length) i.2.length (i.2.flatMap Bg.row) ∧ (∀ v ∈ i.2, v.M m) ∧ i.2.map Bg.er = f.B.l.map Bg.er) (fun _ => f.as b) := by
  refine Ctr.mk fun w F m C hM => x_Begins _ w _ ?_
  refine (c_none b f.an rfl).call (As := f.rs) C trivial fun _ m1 w2 hk hm1 _ C => ⟨_, rfl, hk.size, ?_⟩
  replace hM := hM.mono hm1
  rw [if_neg (by decide)]
  obtain ⟨p, C⟩ := opB (f := f) C.noL
  have hlen := hf.b
  refine ⟨f.B.sl.1, f.B.l.length, f.B.sl.2, by rw [Addr.add_mid, Addr.add_mid]; exact C.blkCell (j := 1) rfl, ?_⟩
  refine ⟨fun q k c i w' L' => ∃ (j : Nat) (m' : Mem) (fs : List Bg), i = j ∧ k = fs.length ∧ j ≤ f.B.l.length ∧ m1.le m' ∧ fs.map Bg.er = (f.B.l.take j).map Bg.er ∧ (∀ v ∈ fs, v.M m') ∧ Ctx F m w w' L' m' (slA (.slice q fs.length c) fs.length (fs.flatMap Bg.row) 112 14 :: qB b f p), fun _ _ _ i _ => (f.B.l.length - i).toNat, ⟨0, m1, [], rfl, rfl, by omega, Mem.le_refl _, rfl, by simp, Ctx.slNil C⟩, ?_⟩
  clear C
  rintro q k c i w13 L14 _ ⟨j, m', fs, rfl, rfl, hj, hm', her, hfs, D⟩
  by_cases hjl : j < f.B.l.length
  rotate_left
  · rw [if_neg (by simpa using hjl)]
    have hj2 : j = f.B.l.length := by omega
    rw [hj2, List.take_length] at her
    obtain ⟨m2, hm2, hs, D2⟩ := D.slShare
    exact Ctr.ret (m' := m2) (L := L14) ((q, c), fs) rfl ⟨hs, fun v hv => MSrc.mono (hfs v hv) hm2, her⟩ (clB (f := f) (q := f.B.q) (sl := f.B.sl) (l := f.B.l) rfl rfl D2)
  rw [if_pos (by simpa using hjl)]
  refine ⟨by omega, by simpa using hjl, ?_⟩
  have hfl : fs.length = j := by have := congrArg List.length her; simp at this; omega
  have D1 := D.third
  have hq : ∃ a, f.B.sl.1 = some a := by
    have hc := D1.slCells
    cases hp : f.B.sl.1 with
    | some a => exact ⟨a, rfl⟩
    | none =>
      have h0 := hc.2 hp
      have := flat_len bg_len f.B.l
      rw [h0] at this; simp at this; omega
  obtain ⟨a, ha⟩ := hq
  rw [ha, onSome_some]
  have hcl0 := cells_elem bg_len (D1.slCells.1 a ha).1 j hjl
  have hvm := hM.b _ (List.getElem_mem hjl)
  have hvb := hb _ (List.getElem_mem hjl)
  have etk : (f.B.l.take (j + 1)).map Bg.er = (f.B.l.take j).map Bg.er ++ [f.B.l[j].er] := by rw [List.take_succ_eq_append_getElem hjl, List.map_append]; rfl
  generalize f.B.l[j] = v at hcl0 hvm hvb etk
  refine ⟨_, _, _, _, _, _, _, _, _, _, _, _, _, _, _, _, by rw [Int.toNat_natCast]; exact hcl0, fun w32 L33 h32 g32 => ?_⟩
  refine (c_CloneP v.pq v.ps hvb).call (As := slA (.slice q fs.length c) fs.length (fs.flatMap Bg.row) 112 14 :: qB b f p) (D.noL.hidL h32 g32) (MSrc.mono hvm hm') fun pp m2 w35 hk2 hm2 hpp D => ⟨_, _, _, rfl, hk2, fun w39 L40 h39 g39 => ?_⟩
  have D0 := ((D.hidL h39 g39).alloc (v.at' pp).row 112).swap
  have hcl : Cells _ ⟨w39.heap.size, 0, none⟩ (v.at' pp).row := ((D.hidL h39 g39).alloc (v.at' pp).row 112).blkCells (o := 0) fun k u e => by simpa using e
  obtain ⟨q2, c2, w44, hr, hkk, D2⟩ := Ctx.app2 (P := Try.prog) (bytes := 120) (t := 71) (t2 := 71) D0 71 (by kernel_rfl) (.some ⟨w39.heap.size, 0, none⟩ 1 1 (v.at' pp).row rfl hcl) (by unfold maxLen; omega) (by omega) (bg_one _)
  have e1 : (fs ++ [v.at' pp]).length = fs.length + 1 := by simp
  have e2 : (fs ++ [v.at' pp]).flatMap Bg.row = fs.flatMap Bg.row ++ (v.at' pp).row := by simp
  have e : IntKind.wrap .i64 ((j : Int) + 1) = ((j + 1 : Nat) : Int) := by rw [w_i64 (by omega) (by omega)]; omega
  refine ⟨q2, _, c2, w44, hr, hkk, ?_⟩
  rw [e]
  refine ⟨⟨j + 1, m2, fs ++ [v.at' pp], rfl, e1.symm, hjl, hm'.le_trans hm2, ?_, ?_, ?_⟩, Nat.le_of_eq (by show ((f.B.l.length : Int) - ((j + 1 : Nat) : Int)).toNat + 1 = ((f.B.l.length : Int) - (j : Int)).toNat; omega)⟩
  · rw [etk, List.map_append, her]; rfl
  · intro y hy
    rcases List.mem_append.1 hy with hy | hy
    · exact MSrc.mono (hfs y hy) hm2
    · simp only [List.mem_singleton] at hy; subst hy; exact hpp
  · rw [← e2, ← e1] at D2
    exact D2.swap.drop
theorem c_Tolds (b : Nat) (f : Fa) (hb : ∀ v ∈ f.T.l, v.v.ps.length * 48 ≤ 140737488355328) (hf : f.few) : Ctr Try.prog 17 #[.pointer (some ⟨b, 0, none⟩)] (fun m => f.M m) (f.as b) (fun i : Sl × List Td => slV i.1 i.2.length)
    (fun i m => MSrc m 17 (slV i.1 i.2.length) i.2.length (i.2.flatMap Td.row) ∧ (∀ v ∈ i.2, v.v.M m) ∧ i.2.map Td.er = f.T.l.map Td.er) (fun _ => f.as b) := by
  refine Ctr.mk fun w F m C hM => x_Tolds _ w _ ?_
  refine (c_none b f.an rfl).call (As := f.rs) C trivial fun _ m1 w2 hk hm1 _ C => ⟨_, rfl, hk.size, ?_⟩
  replace hM := hM.mono hm1
  rw [if_neg (by decide)]
  obtain ⟨p, C⟩ := opT (f := f) C.noL
  have hlen := hf.t
  refine ⟨f.T.sl.1, f.T.l.length, f.T.sl.2, C.blkCell (j := 5) rfl, ?_⟩
  refine ⟨fun q k c i w' L' => ∃ (j : Nat) (m' : Mem) (fs : List Td), i = j ∧ k = fs.length ∧ j ≤ f.T.l.length ∧ m1.le m' ∧ fs.map Td.er = (f.T.l.take j).map Td.er ∧ (∀ v ∈ fs, v.v.M m') ∧ Ctx F m w w' L' m' (slA (.slice q fs.length c) fs.length (fs.flatMap Td.row) 124 17 :: qT b f p), fun _ _ _ i _ => (f.T.l.length - i).toNat, ⟨0, m1, [], rfl, rfl, by omega, Mem.le_refl _, rfl, by simp, Ctx.slNil C⟩, ?_⟩
  clear C
  rintro q k c i w13 L14 _ ⟨j, m', fs, rfl, rfl, hj, hm', her, hfs, D⟩
  by_cases hjl : j < f.T.l.length
  rotate_left
  · rw [if_neg (by simpa using hjl)]
    have hj2 : j = f.T.l.length := by omega
    rw [hj2, List.take_length] at her
    obtain ⟨m2, hm2, hs, D2⟩ := D.slShare
    exact Ctr.ret (m' := m2) (L := L14) ((q, c), fs) rfl ⟨hs, fun v hv => MSrc.mono (hfs v hv) hm2, her⟩ (clT (f := f) (q := f.T.q) (sl := f.T.sl) (l := f.T.l) rfl rfl D2)
  rw [if_pos (by simpa using hjl)]
  refine ⟨by omega, by simpa using hjl, ?_⟩
  have hfl : fs.length = j := by have := congrArg List.length her; simp at this; omega
  have D1 := D.third
  have hq : ∃ a, f.T.sl.1 = some a := by
    have hc := D1.slCells
    cases hp : f.T.sl.1 with
    | some a => exact ⟨a, rfl⟩
    | none =>
      have h0 := hc.2 hp
      have := flat_len td_len f.T.l
      rw [h0] at this; simp at this; omega
  obtain ⟨a, ha⟩ := hq
  rw [ha, onSome_some]
  have hcl0 := cells_elem td_len (D1.slCells.1 a ha).1 j hjl
  have hvm := hM.t _ (List.getElem_mem hjl)
  have hvb := hb _ (List.getElem_mem hjl)
  have etk : (f.T.l.take (j + 1)).map Td.er = (f.T.l.take j).map Td.er ++ [f.T.l[j].er] := by rw [List.take_succ_eq_append_getElem hjl, List.map_append]; rfl
  generalize f.T.l[j] = v at hcl0 hvm hvb etk
  refine ⟨_, _, _, _, _, _, _, _, _, _, _, _, _, _, _, _, _, _, _, by rw [Int.toNat_natCast]; exact hcl0, fun w32 L33 h32 g32 => ?_⟩
  refine (c_CloneV v.v hvb).call (As := slA (.slice q fs.length c) fs.length (fs.flatMap Td.row) 124 17 :: qT b f p) (D.noL.hidL h32 g32) (MSrc.mono hvm hm') fun pp m2 w35 hk2 hm2 hpp D => ⟨_, _, _, _, _, rfl, hk2, fun w39 L40 h39 g39 => ?_⟩
  have D0 := ((D.hidL h39 g39).alloc (v.at_ pp).row 124).swap
  have hcl : Cells _ ⟨w39.heap.size, 0, none⟩ (v.at_ pp).row := ((D.hidL h39 g39).alloc (v.at_ pp).row 124).blkCells (o := 0) fun k u e => by simpa using e
  obtain ⟨q2, c2, w44, hr, hkk, D2⟩ := Ctx.app2 (P := Try.prog) (bytes := 120) (t := 75) (t2 := 75) D0 75 (by kernel_rfl) (.some ⟨w39.heap.size, 0, none⟩ 1 1 (v.at_ pp).row rfl hcl) (by unfold maxLen; omega) (by omega) (td_one _)
  have e1 : (fs ++ [v.at_ pp]).length = fs.length + 1 := by simp
  have e2 : (fs ++ [v.at_ pp]).flatMap Td.row = fs.flatMap Td.row ++ (v.at_ pp).row := by simp
  have e : IntKind.wrap .i64 ((j : Int) + 1) = ((j + 1 : Nat) : Int) := by rw [w_i64 (by omega) (by omega)]; omega
  refine ⟨q2, _, c2, w44, hr, hkk, ?_⟩
  rw [e]
  refine ⟨⟨j + 1, m2, fs ++ [v.at_ pp], rfl, e1.symm, hjl, hm'.le_trans hm2, ?_, ?_, ?_⟩, Nat.le_of_eq (by show ((f.T.l.length : Int) - ((j + 1 : Nat) : Int)).toNat + 1 = ((f.T.l.length : Int) - (j : Int)).toNat; omega)⟩
  · rw [etk, List.map_append, her]; rfl
  · intro y hy
    rcases List.mem_append.1 hy with hy | hy
    · exact MSrc.mono (hfs y hy) hm2
    · simp only [List.mem_singleton] at hy; subst hy; exact hpp
  · rw [← e2, ← e1] at D2
    exact D2.swap.drop
theorem c_Sats (b : Nat) (f : Fa) (hb : ∀ v ∈ f.S.l, v.v.ps.length * 48 ≤ 140737488355328) (hf : f.few) : Ctr Try.prog 18 #[.pointer (some ⟨b, 0, none⟩)] (fun m => f.M m) (f.as b) (fun i : Sl × List St => slV i.1 i.2.length)
    (fun i m => MSrc m 5 (slV i.1 i.2.length) i.2.length (i.2.flatMap St.row) ∧ (∀ v ∈ i.2, v.v.M m) ∧ i.2.map St.er = f.S.l.map St.er) (fun _ => f.as b) := by
  refine Ctr.mk fun w F m C hM => x_Sats _ w _ ?_
  refine (c_none b f.an rfl).call (As := f.rs) C trivial fun _ m1 w2 hk hm1 _ C => ⟨_, rfl, hk.size, ?_⟩
  replace hM := hM.mono hm1
  rw [if_neg (by decide)]
  obtain ⟨p, C⟩ := opS (f := f) C.noL
  have hlen := hf.s
  refine ⟨f.S.sl.1, f.S.l.length, f.S.sl.2, C.blkCell (j := 7) rfl, ?_⟩
  refine ⟨fun q k c i w' L' => ∃ (j : Nat) (m' : Mem) (fs : List St), i = j ∧ k = fs.length ∧ j ≤ f.S.l.length ∧ m1.le m' ∧ fs.map St.er = (f.S.l.take j).map St.er ∧ (∀ v ∈ fs, v.v.M m') ∧ Ctx F m w w' L' m' (slA (.slice q fs.length c) fs.length (fs.flatMap St.row) 128 5 :: qS b f p), fun _ _ _ i _ => (f.S.l.length - i).toNat, ⟨0, m1, [], rfl, rfl, by omega, Mem.le_refl _, rfl, by simp, Ctx.slNil C⟩, ?_⟩
  clear C
  rintro q k c i w13 L14 _ ⟨j, m', fs, rfl, rfl, hj, hm', her, hfs, D⟩
  by_cases hjl : j < f.S.l.length
  rotate_left
  · rw [if_neg (by simpa using hjl)]
    have hj2 : j = f.S.l.length := by omega
    rw [hj2, List.take_length] at her
    obtain ⟨m2, hm2, hs, D2⟩ := D.slShare
    exact Ctr.ret (m' := m2) (L := L14) ((q, c), fs) rfl ⟨hs, fun v hv => MSrc.mono (hfs v hv) hm2, her⟩ (clS (f := f) (q := f.S.q) (sl := f.S.sl) (l := f.S.l) rfl rfl D2)
  rw [if_pos (by simpa using hjl)]
  refine ⟨by omega, by simpa using hjl, ?_⟩
  have hfl : fs.length = j := by have := congrArg List.length her; simp at this; omega
  have D1 := D.third
  have hq : ∃ a, f.S.sl.1 = some a := by
    have hc := D1.slCells
    cases hp : f.S.sl.1 with
    | some a => exact ⟨a, rfl⟩
    | none =>
      have h0 := hc.2 hp
      have := flat_len st_len f.S.l
      rw [h0] at this; simp at this; omega
  obtain ⟨a, ha⟩ := hq
  rw [ha, onSome_some]
  have hcl0 := cells_elem st_len (D1.slCells.1 a ha).1 j hjl
  have hvm := hM.s _ (List.getElem_mem hjl)
  have hvb := hb _ (List.getElem_mem hjl)
  have etk : (f.S.l.take (j + 1)).map St.er = (f.S.l.take j).map St.er ++ [f.S.l[j].er] := by rw [List.take_succ_eq_append_getElem hjl, List.map_append]; rfl
  generalize f.S.l[j] = v at hcl0 hvm hvb etk
  refine ⟨_, _, _, _, _, _, _, by rw [Int.toNat_natCast]; exact hcl0, fun w32 L33 h32 g32 => ?_⟩
  refine (c_CloneV v.v hvb).call (As := slA (.slice q fs.length c) fs.length (fs.flatMap St.row) 128 5 :: qS b f p) (D.noL.hidL h32 g32) (MSrc.mono hvm hm') fun pp m2 w35 hk2 hm2 hpp D => ⟨_, _, _, _, _, rfl, hk2, fun w39 L40 h39 g39 => ?_⟩
  have D0 := ((D.hidL h39 g39).alloc (v.at_ pp).row 128).swap
  have hcl : Cells _ ⟨w39.heap.size, 0, none⟩ (v.at_ pp).row := ((D.hidL h39 g39).alloc (v.at_ pp).row 128).blkCells (o := 0) fun k u e => by simpa using e
  obtain ⟨q2, c2, w44, hr, hkk, D2⟩ := Ctx.app2 (P := Try.prog) (bytes := 120) (t := 77) (t2 := 77) D0 77 (by kernel_rfl) (.some ⟨w39.heap.size, 0, none⟩ 1 1 (v.at_ pp).row rfl hcl) (by unfold maxLen; omega) (by omega) (st_one _)
  have e1 : (fs ++ [v.at_ pp]).length = fs.length + 1 := by simp
  have e2 : (fs ++ [v.at_ pp]).flatMap St.row = fs.flatMap St.row ++ (v.at_ pp).row := by simp
  have e : IntKind.wrap .i64 ((j : Int) + 1) = ((j + 1 : Nat) : Int) := by rw [w_i64 (by omega) (by omega)]; omega
  refine ⟨q2, _, c2, w44, hr, hkk, ?_⟩
  rw [e]
  refine ⟨⟨j + 1, m2, fs ++ [v.at_ pp], rfl, e1.symm, hjl, hm'.le_trans hm2, ?_, ?_, ?_⟩, Nat.le_of_eq (by show ((f.S.l.length : Int) - ((j + 1 : Nat) : Int)).toNat + 1 = ((f.S.l.length : Int) - (j : Int)).toNat; omega)⟩
  · rw [etk, List.map_append, her]; rfl
  · intro y hy
    rcases List.mem_append.1 hy with hy | hy
    · exact MSrc.mono (hfs y hy) hm2
    · simp only [List.mem_singleton] at hy; subst hy; exact hpp
  · rw [← e2, ← e1] at D2
    exact D2.swap.drop
theorem c_CloneEdO (q : Sl) (l : List Ed) (hl : l.length * 120 ≤ 140737488355328) : Ctr Try.prog 50 #[slV q l.length] noMem [slA (slV q l.length) l.length (l.flatMap Ed.row) 116 17] (fun p : Sl => slV p l.length) (fun p m => MSrc m 17 (slV p l.length) l.length (l.flatMap Ed.row)) (fun _ => [slA (slV q l.length) l.length (l.flatMap Ed.row) 116 17]) := by
  obtain ⟨q1, q2⟩ := q
  refine Ctr.mk fun w F m C _ => x_CloneEd q1 _ q2 w _ ?_
  cases q1 with
  | none =>
    rw [if_pos (show (none : Option Addr).isNone = true from rfl)]
    have h0 := C.slCells.2 rfl
    have h1 : l = [] := by
      have := flat_len ed_len l
      rw [h0] at this
      exact List.eq_nil_of_length_eq_zero (by simp at this; omega)
    subst h1
    exact Ctr.ret (none, 0) rfl (.nil ..) C
  | some a =>
    rw [if_neg (by simp)]
    have C1 : Ctx F m w _ [] m [slA (.slice (some ⟨w.heap.size, 0, none⟩) 0 0) 0 [] 116 17, slA (slV (some a, q2) l.length) l.length (l.flatMap Ed.row) 116 17] := (C.newDrop [] 116).slNil
    obtain ⟨q1, c1, w4, hr, hk, C2⟩ := C1.app2 (P := Try.prog) (bytes := 120) (t := 73) (t2 := 73) 73 (by kernel_rfl) C1.swap.slSrc (by unfold maxLen; omega) (by omega) (flat_one ed_one l)
    rw [List.nil_append, Nat.zero_add] at C2
    rw [Nat.zero_add] at hr
    refine ⟨q1, l.length, c1, w4, hr, hk.size, ?_⟩
    obtain ⟨m', hm, hs, C3⟩ := C2.slShare
    exact Ctr.ret (m' := m') (L := []) (q1, c1) rfl hs C3
theorem c_Ends (b : Nat) (f : Fa) (hf : f.few) : Ctr Try.prog 16 #[.pointer (some ⟨b, 0, none⟩)] (fun m => f.M m) (f.as b) (fun i : Sl => slV i f.E.l.length)
    (fun i m => MSrc m 17 (slV i f.E.l.length) f.E.l.length (f.E.l.flatMap Ed.row)) (fun _ => f.as b) := by
  refine Ctr.mk fun w F m C hM => x_Ends _ w _ ?_
  refine (c_none b f.an rfl).call (As := f.rs) C trivial fun _ m1 w2 hk hm1 _ C => ⟨_, rfl, hk.size, ?_⟩
  rw [if_neg (by decide)]
  obtain ⟨p, C⟩ := opE (f := f) C.noL
  have hlen := hf.e
  refine ⟨f.E.sl.1, f.E.l.length, f.E.sl.2, C.blkCell (j := 3) rfl, ?_⟩
  refine (c_CloneEdO f.E.sl f.E.l (by omega)).call (As := _) (Ctx.swap C) trivial fun q m2 w8 hk hm2 hq C => ⟨_, _, _, rfl, hk.size, ?_⟩
  exact Ctr.ret (m' := m2) (L := []) q rfl hq (clE (f := f) (q := f.E.q) (sl := f.E.sl) (l := f.E.l) rfl rfl (Ctx.swap C))
end Go.Proofs
