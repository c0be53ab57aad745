import Derived.Test.YtjabbpcfinjofaaU23f
set_option linter.unusedVariables false
set_option linter.unusedSimpArgs false
set_option maxRecDepth 10000
namespace Go.Proofs
open Go X RowKit
theorem c_Order (b : Nat) (x : An) (g : Nat) (hg : g < 4) (hl : (x.o g).length ≤ 100000) :
    Ctr Try.prog 9 #[.pointer (some ⟨b, 0, none⟩), .int .u8 (g : Int)] (fun m => AnM m x) [anA b x] (fun f : Sl × List En => slV f.1 f.2.length) (fun f m => f.2.map En.er = (x.o g).map En.er ∧ (∀ e ∈ f.2, EnM m e)) (fun f => [anA b x, ensA f.1 f.2]) := by
  refine Ctr.mk fun w F m C hx => x_annal_Annal_Order _ _ w _ ?_
  refine (c_none b x hx.pre).call (As := []) C trivial fun _ m1 w2 hk hm _ C => ⟨_, rfl, hk.size, ?_⟩
  rw [if_neg (by simp; omega)]
  replace hx := hx.mono hm
  obtain ⟨p, C⟩ := anO C
  replace C : Ctx F m w w2 [] m1 (anAs b x p) := C.noL
  obtain ⟨Bs, op, bk, cl⟩ := anS (F0 := F) (m0 := m) (w0 := w) (b := b) (x := x) (p := p) hx.pre g hg
  refine ⟨by omega, by omega, (p g).1, (x.o g).length, (p g).2, ?_, ?_⟩
  · rw [Int.toNat_natCast, Nat.mul_one, Addr.add_mid, Addr.add_mid]
    refine C.blkCell (j := 0 + 8 + g) ?_
    rw [Nat.zero_add, an_cell hx.pre]
    match g, hg with
    | 0, _ | 1, _ | 2, _ | 3, _ => rfl
  refine ⟨fun q k c i w' _ => ∃ (j : Nat) (m' : Mem) (fs : List En), i = j ∧ k = fs.length ∧ j ≤ (x.o g).length ∧ m1.le m' ∧ fs.map En.er = ((x.o g).take j).map En.er ∧ (∀ e ∈ fs, EnM m' e) ∧ Ctx F m w w' [] m' (anAs b x p ++ [ensA (q, c) fs]), fun _ _ _ i _ => ((x.o g).length - i).toNat,
    ⟨0, m1, [], rfl, rfl, by omega, Mem.le_refl _, rfl, by simp, (Ctx.slNil C).rot⟩, ?_⟩
  clear C
  rintro q k c i w13 L14 _ ⟨j, m', fs, rfl, rfl, hj, hm', her, hfs, D⟩
  by_cases hjl : j < (x.o g).length
  rotate_left
  · rw [if_neg (by simpa using hjl)]
    have hj2 : j = (x.o g).length := by omega
    rw [hj2, List.take_length] at her
    exact Ctr.ret (m' := m') (L := []) ((q, c), fs) rfl ⟨her, hfs⟩ (anI p D)
  rw [if_pos (by simpa using hjl)]
  refine ⟨by omega, by simpa using hjl, ?_⟩
  have hfl : fs.length = j := by have := congrArg List.length her; simp at this; omega
  have D1 := op D
  have hq : ∃ a, (p g).1 = some a := by
    have hc := D1.slCells
    cases hp : (p g).1 with
    | some a => exact ⟨a, rfl⟩
    | none =>
      have h0 := hc.2 hp
      have := flat_len en_len (x.o g)
      rw [h0] at this; simp at this; omega
  obtain ⟨a, ha⟩ := hq
  rw [ha, onSome_some]
  have hcl0 := cells_elem en_len (D1.slCells.1 a ha).1 j hjl
  refine ⟨_, _, _, _, _, _, _, _, _, _, _, _, _, _, _, _, _, _, _, _, _, _, by rw [Int.toNat_natCast]; exact hcl0, fun w38 L39 h38 g38 => ?_⟩
  have hem : EnM m' (x.o g)[j] := (hx.e g _ (List.getElem_mem hjl)).mono hm'
  refine (c_eClone (x.o g)[j]).call (As := anAs b x p ++ [ensA (q, c) fs]) (D.hidL h38 g38) hem fun f m2 w41 hk2 hm2 hf D => ⟨_, _, _, _, _, _, _, _, _, _, _, _, _, _, _, _, _, _, _, _, _, _, rfl, hk2, ?_⟩
  obtain ⟨hfm, hfe⟩ := hf
  have D0 := (D.alloc f.row 107).pm [6, 0, 1, 2, 3, 4, 5] rfl
  have hcl : Cells _ ⟨w41.heap.size, 0, none⟩ f.row := (D.alloc f.row 107).blkCells (o := 0) fun k v e => by simpa using e
  obtain ⟨q2, c2, w67, hr, hkk, D2⟩ := Ctx.app (P := Try.prog) (bytes := 400) (t := 55) (t2 := 55) D0 55 (by kernel_rfl) (.some ⟨w41.heap.size, 0, none⟩ 1 1 f.row rfl hcl) (by omega) (en_one _)
  have e1 : (fs ++ [f]).length = fs.length + 1 := by simp
  have e2 : (fs ++ [f]).flatMap En.row = fs.flatMap En.row ++ f.row := by simp
  have e : IntKind.wrap .i64 ((j : Int) + 1) = ((j + 1 : Nat) : Int) := by rw [w_i64 (by omega) (by omega)]; omega
  refine ⟨q2, _, c2, w67, hr, hkk, ?_⟩
  rw [e]
  refine ⟨⟨j + 1, m2, fs ++ [f], rfl, e1.symm, hjl, hm'.le_trans hm2, ?_, ?_, ?_⟩, Nat.le_of_eq (by show (((x.o g).length : Int) - ((j + 1 : Nat) : Int)).toNat + 1 = (((x.o g).length : Int) - (j : Int)).toNat; omega)⟩
  · rw [List.take_succ_eq_append_getElem hjl, List.map_append, List.map_append, her]; simp [hfe]
  · intro y hy
    rcases List.mem_append.1 hy with hy | hy
    · exact (hfs y hy).mono hm2
    · simp only [List.mem_singleton] at hy; subst hy; exact hfm
  · rw [← e2, ← e1] at D2
    exact Ctx.noL (D2.pk [2, 3, 4, 5, 6, 0] [1] rfl)
end Go.Proofs
