import Derived.Test.YtamnhlkaknjcaaaU09j
import Derived.Test.YtamnhlkaknjcaaaW09s
import Derived.Test.YtamnhlkaknjcaaaXWalk
import Derived.Test.YtamnhlkaknjcaaaXClear
set_option linter.unusedVariables false
set_option linter.unusedSimpArgs false
set_option maxRecDepth 10000
namespace Go.Proofs
open Go X RowKit Go.Sort
abbrev noMem : Mem → Prop := fun _ => True
instance : DecidableEq I := fun a b => decidable_of_iff (a.n = b.n ∧ a.l = b.l ∧ a.s = b.s ∧ a.d = b.d ∧ a.g0 = b.g0 ∧ a.i0 = b.i0 ∧ a.g1 = b.g1 ∧ a.i1 = b.i1 ∧ a.g2 = b.g2 ∧ a.i2 = b.i2) (by cases a; cases b; simp)
instance : DecidableEq K := fun a b => decidable_of_iff (a.kd = b.kd ∧ a.pn = b.pn ∧ a.pl = b.pl ∧ a.id = b.id) (by cases a; cases b; simp)
abbrev J : Type := { x : K // x.In }
def K.zero : K := ⟨0, 0, 0, I.zero⟩
theorem zero_in : K.zero.In := by refine ⟨by decide, by decide, by decide, ?_⟩; constructor <;> decide
instance : Inhabited J := ⟨⟨K.zero, zero_in⟩⟩
abbrev jV (j : J) : Value := j.1.V
abbrev jR (j : J) : List Value := j.1.row
theorem k_eq (x y : K) : ((x.kd == y.kd) && (((x.pn == y.pn) && (x.pl == y.pl)) && (((x.id.n == y.id.n) && (x.id.l == y.id.l)) && ((x.id.s == y.id.s) && ((x.id.d == y.id.d) && (((x.id.g0 == y.id.g0) && (x.id.i0 == y.id.i0)) && (((x.id.g1 == y.id.g1) && (x.id.i1 == y.id.i1)) && ((x.id.g2 == y.id.g2) && (x.id.i2 == y.id.i2))))))))) = decide (x = y) := by
  rw [Bool.eq_iff_iff, decide_eq_true_eq]
  simp only [Bool.and_eq_true, beq_iff_eq]
  constructor
  · rintro ⟨a1, ⟨a2, a3⟩, ⟨h1, h2⟩, h3, h4, ⟨h5, h6⟩, ⟨h7, h8⟩, h9, h10⟩
    exact K.ext' ⟨a1, a2, a3, I.ext' ⟨h1, h2, h3, h4, h5, h6, h7, h8, h9, h10⟩⟩
  · rintro rfl; exact ⟨rfl, ⟨rfl, rfl⟩, ⟨rfl, rfl⟩, rfl, rfl, ⟨rfl, rfl⟩, ⟨rfl, rfl⟩, rfl, rfl⟩
theorem key40 : KeyT Try.prog 40 jV := by
  refine keyAgg Try.underlying40 (fun x => ⟨_, rfl⟩) (fun x => by kernel_rfl) (fun x y => ⟨((x.1.kd == y.1.kd) && (((x.1.pn == y.1.pn) && (x.1.pl == y.1.pl)) && (((x.1.id.n == y.1.id.n) && (x.1.id.l == y.1.id.l)) && ((x.1.id.s == y.1.id.s) && ((x.1.id.d == y.1.id.d) && (((x.1.id.g0 == y.1.id.g0) && (x.1.id.i0 == y.1.id.i0)) && (((x.1.id.g1 == y.1.id.g1) && (x.1.id.i1 == y.1.id.i1)) && ((x.1.id.g2 == y.1.id.g2) && (x.1.id.i2 == y.1.id.i2))))))))), by kernel_rfl, ?_⟩) (fun x => by simp [Instr.sameBits])
  rw [k_eq x.1 y.1, decide_eq_true_eq]
  exact ⟨Subtype.ext, fun h => by rw [h]⟩
theorem jR_len (j : J) : (jR j).length = 13 := rfl
theorem jR_one (j : J) : ∀ u ∈ jR j, oneC u = true := by
  intro u hu
  simp only [jR, K.row, List.mem_cons, List.not_mem_nil, or_false] at hu
  rcases hu with rfl | rfl | rfl | rfl | rfl | rfl | rfl | rfl | rfl | rfl | rfl | rfl | rfl <;> rfl
/-! ### the wheel -/
abbrev tV (t : Int) : Value := .int .i64 t
structure Wh where (most : Int) (l : List (J × Int))
abbrev whB (b : Nat) (most : Int) (mb : Nat) : Asn := blk b [.map (some mb), .int .i64 most] 74
abbrev whM (mb : Nat) (l : List (J × Int)) : Asn := mapA mb jV tV l
def whA (b : Nat) (s : Wh) : Asn := Asn.ex fun mb : Nat => Asn.all [whB b s.most mb, whM mb s.l]
section
variable {F0 : List Nat} {m0 : Mem} {w0 w : World} {L : List Nat} {m : Mem} {As : List Asn}
theorem whO {b : Nat} {s : Wh} (C : Ctx F0 m0 w0 w L m (whA b s :: As)) : ∃ mb, Ctx F0 m0 w0 w L m ([whB b s.most mb, whM mb s.l] ++ As) := by
  obtain ⟨mb, C⟩ := C.ex
  exact ⟨mb, C.all⟩
theorem whI {b : Nat} {s : Wh} (mb : Nat) (C : Ctx F0 m0 w0 w L m ([whB b s.most mb, whM mb s.l] ++ As)) : Ctx F0 m0 w0 w L m (whA b s :: As) := Ctx.exI mb (Ctx.allI C)
theorem t72 : Try.prog.underlying 72 = some (.map 40 3) := by kernel_rfl
theorem z3 : ((Try.prog.info? 3).bind (·.zero)) = some (.int .i64 0) := by kernel_rfl
theorem look_wh {mb : Nat} {l : List (J × Int)} (C : Ctx F0 m0 w0 w L m (whM mb l :: As)) (d : J) : (Instr.lookup 72 (.map (some mb)) (jV d) true).run Try.prog w = .ok (.tuple #[.int .i64 ((fnd d l).getD 0), .bool (fnd d l).isSome]) w := by
  obtain ⟨i, hi, hz⟩ := Option.bind_eq_some_iff.1 z3
  have := Ctx.mlook (P := Try.prog) t72 key40 hi hz C d true
  rw [this]
  cases fnd d l <;> rfl
theorem look_wh1 {mb : Nat} {l : List (J × Int)} (C : Ctx F0 m0 w0 w L m (whM mb l :: As)) (d : J) : (Instr.lookup 72 (.map (some mb)) (jV d) false).run Try.prog w = .ok (.int .i64 ((fnd d l).getD 0)) w := by
  obtain ⟨i, hi, hz⟩ := Option.bind_eq_some_iff.1 z3
  have := Ctx.mlook (P := Try.prog) t72 key40 hi hz C d false
  rw [this]
  cases fnd d l <;> rfl
end
/-! ### the order of timers -/
def atF (l : List (J × Int)) (x : J) : Int := (fnd x l).getD 0
def cmpT (l : List (J × Int)) (x y : J) : Int := orL [cmp2 (atF l x) (atF l y), x.1.cmp y.1]
theorem lt_T (l : List (J × Int)) (x y : J) : ltOf (cmpT l) x y = decide (atF l x < atF l y ∨ (atF l x = atF l y ∧ x.1.num < y.1.num)) := by
  simp only [ltOf, cmpT, orL, k_cmp_num x.2 y.2]
  congr 1
  apply propext
  generalize atF l x = a
  generalize atF l y = b
  rcases Int.lt_trichotomy a b with h | h | h
  · rw [cmp2_lt h, if_pos (by decide)]; constructor
    · intro _; exact .inl h
    · intro _; decide
  · subst h
    rw [cmp2_self, if_neg (by decide)]
    rcases Int.lt_trichotomy x.1.num y.1.num with g | g | g
    · rw [cmp2_lt g, if_pos (by decide)]; simp [g]
    · rw [g, cmp2_self, if_neg (by decide)]; simp
    · rw [cmp2_gt g, if_pos (by decide)]; simp; omega
  · rw [cmp2_gt h, if_pos (by decide)]; constructor
    · intro hh; exact absurd hh (by decide)
    · rintro (hh | hh) <;> omega
theorem swoT (l : List (J × Int)) : SWO (ltOf (cmpT l)) where
  irrefl x := by rw [lt_T]; simp
  trans x y z h1 h2 := by rw [lt_T] at *; simp only [decide_eq_true_eq] at *; omega
  ntrans x y z h1 h2 := by rw [lt_T] at *; simp only [decide_eq_false_iff_not] at *; omega
theorem totT (l : List (J × Int)) (x y : J) (h1 : ltOf (cmpT l) x y = false) (h2 : ltOf (cmpT l) y x = false) : x = y := by
  rw [lt_T] at h1 h2
  simp only [decide_eq_false_iff_not] at h1 h2
  exact Subtype.ext (k_num_inj x.2 y.2 (by omega))
theorem enters49 : ∀ args w, (callFunc 49 args).run Try.prog w = .ok (.enter 49 args) w := enters_of Try.func49 (by kernel_rfl) rfl
/-- the closure compares by times, then keys; it changes nothing -/
theorem cmp49 (z b mb : Nat) (most : Int) (l : List (J × Int)) (w : World) (F : List Nat) (hS : Sat w [blk z [.pointer (some ⟨b, 0, none⟩)] 46, whB b most mb, whM mb l] F) (hF : ∀ c, c ∈ F → c < w.heap.size) (x y : J) :
    Calls Try.prog 49 (#[.agg (jR x).toArray, .agg (jR y).toArray] ++ #[.pointer (some ⟨z, 0, none⟩)]) w fun e w' => e = .returned (.int .i64 (cmpT l x y)) ∧ Bel w.heap.size w w' := by
  have hC : ∀ w', Bel w.heap.size w w' → Ctx F (fun _ => none) w' w' [] (fun _ => none) [blk z [.pointer (some ⟨b, 0, none⟩)] 46, whB b most mb, whM mb l] := fun w' hb =>
    Ctx.start (hS.frame fun c hc => hb.block c (hF c hc)) (fun c hc => Nat.lt_of_lt_of_le (hF c hc) hb.size) (fun a v h => by cases h)
  have hz : z < w.heap.size := (Array.getElem?_eq_some_iff.1 (hC w (below_refl _ _)).blkAt.1).1
  have hbb : b < w.heap.size := (Array.getElem?_eq_some_iff.1 ((hC w (below_refl _ _)).pm [1, 0, 2] rfl).blkAt.1).1
  have hf : ∀ {w' L'}, At w.heap.size w w' L' → FactsW [(⟨z, 0, none⟩, [.pointer (some ⟨b, 0, none⟩)]), (⟨b, 0, none⟩, [.map (some mb)])] w' L' := fun {w' L'} A =>
    factsMore ((hC w' A.bel).blkCells (o := 0) fun j v hj => by simpa using hj) (Nat.lt_of_lt_of_le hz A.bel.size) (fun hm => by have := (A.loc _ hm).1; simp only at this; omega)
      (factsMore (((hC w' A.bel).pm [1, 0, 2] rfl).blkCells (o := 0) fun j v hj => by match j, hj with
        | 0, hj => simpa using hj
        | j + 1, hj => simp at hj) (Nat.lt_of_lt_of_le hbb A.bel.size) (fun hm => by have := (A.loc _ hm).1; simp only at this; omega) (facts_nil _ _))
  have A0 := at_same w
  refine x_wheel_Wheel_order_1 _ _ _ _ _ _ _ _ _ _ _ _ _ _ _ _ _ _ _ _ _ _ _ _ _ _ _ w _ ⟨_, hf A0, _, List.mem_cons_self, ?_⟩
  rw [onSome_some]
  refine ⟨some mb, by simp [Addr.add_mid], _, List.mem_cons_self, ?_⟩
  rw [onSome_some]
  refine ⟨some mb, by simp [Addr.add_mid], fun w8 L9 h8 g8 => ?_, fun w8 L9 h8 g8 => ?_⟩
  all_goals
    have A := at_hid A0 (Nat.le_refl _) h8 g8
    have look : ∀ d, (Instr.lookup 72 (.map (some mb)) (jV d) false).run Try.prog w8 = .ok (.int .i64 (atF l d)) w8 := fun d => look_wh1 ((hC w8 A.bel).pm [2, 0, 1] rfl) d
    first
      | refine ⟨_, w8, look x, kept_refl _ _, hf A, _, w8, look y, kept_refl _ _, hf A, ?_⟩
      | refine ⟨_, w8, look y, kept_refl _ _, hf A, _, w8, look x, kept_refl _ _, hf A, ?_⟩
    refine (c_cmpI (atF l x) (atF l y)).call fun w15 h15 => ⟨_, rfl, at_kept A h15, hf (at_call A (Nat.le_refl _) h15), ?_⟩
    replace A := at_call A (Nat.le_refl _) h15
    refine (c_wCompare x.1 y.1 x.2 y.2).call fun w18 h18 => ⟨_, rfl, at_kept A h18, hf (at_call A (Nat.le_refl _) h18), ?_⟩
    replace A := at_call A (Nat.le_refl _) h18
    have A2 := at_alloc A (Nat.le_refl _)
    refine ⟨hf (A2 _), ?_⟩
    refine (c_OrNew w18 [cmp2 (atF l x) (atF l y), x.1.cmp y.1] 3 (by simp)).call fun w21 h21 => ⟨_, rfl, at_kept (A2 _) h21, hf (at_call (A2 _) (Nat.le_refl _) h21), rfl, ?_⟩
    exact (at_call (A2 _) (Nat.le_refl _) h21).bel
theorem c_Sort (z b mb : Nat) (most : Int) (T : List (J × Int)) (l : List J) (v : Value) : Ctr Try.prog 36 #[v, .func (.func 49) #[] #[.pointer (some ⟨z, 0, none⟩)]] (fun _ => l.length < 4611686018427387904)
    (slA v l.length (l.flatMap jR) 40 13 :: [blk z [.pointer (some ⟨b, 0, none⟩)] 46, whB b most mb, whM mb T]) (fun _ : Unit => .tuple #[]) (fun _ _ => True) (fun _ => slA v l.length ((sortBy (cmpT T) l).flatMap jR) 40 13 :: [blk z [.pointer (some ⟨b, 0, none⟩)] 46, whB b most mb, whM mb T]) :=
  sortFunc_ctr (k := 13) (enc := jR) (cf := cmpT T) (g := 49) (cb := #[.pointer (some ⟨z, 0, none⟩)]) Try.sortK Try.isAgg40 Try.sizeOf40 jR_len jR_one (swoT T) (totT T) enters49 (fun w1 F hS hF x y => cmp49 z b mb most T w1 F hS hF x y) l v 40
end Go.Proofs
