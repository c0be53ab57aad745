import Derived.Test.YtpijekgiblcfhaaU14d
set_option linter.unusedVariables false
set_option linter.unusedSimpArgs false
set_option maxRecDepth 10000
namespace Go.Proofs
open Go X RowKit
abbrev idsA (q : Option Addr) (n c : Nat) (B : List I) : Asn := slA (.slice q n c) n (B.flatMap I.row) 37 10
theorem i_one (x : I) : ∀ u ∈ x.row, oneC u = true := by intro u h; simp [I.row] at h; rcases h with rfl | rfl | rfl | rfl | rfl | rfl | rfl | rfl | rfl | rfl <;> rfl
theorem i_eq (a d : I) : (((a.n == d.n) && (a.l == d.l)) && ((a.s == d.s) && ((a.d == d.d) && (((a.g0 == d.g0) && (a.i0 == d.i0)) && (((a.g1 == d.g1) && (a.i1 == d.i1)) && ((a.g2 == d.g2) && (a.i2 == d.i2))))))) = true ↔ a = d := by
  simp only [Bool.and_eq_true, beq_iff_eq]
  constructor
  · rintro ⟨⟨h1, h2⟩, h3, h4, ⟨h5, h6⟩, ⟨h7, h8⟩, h9, h10⟩
    exact I.ext' ⟨h1, h2, h3, h4, h5, h6, h7, h8, h9, h10⟩
  · rintro rfl; simp
theorem ac_d {a : Ac} {j : Nat} {v : Value} (h : a.d.row[j]? = some v) : a.row[1 + j]? = some v := by
  match j, h with
  | 0, h | 1, h | 2, h | 3, h | 4, h | 5, h | 6, h | 7, h | 8, h | 9, h => exact h
  | j + 10, h => simp [I.row] at h
theorem l_AmoOnce (w : World) (a : Int) (q : Option Addr) (c : Nat) (l : List Ac) (hl : ∀ x ∈ l, x.d.In) (hs : MSrc (memOf w) 14 (.slice q l.length c) l.length (l.flatMap Ac.row)) :
    Calls Try.prog 3 #[.int .i64 a, .slice q l.length c] w (LawR w) := by
  refine x_gemotlaw14_AmoOnce _ _ _ _ w _ ?_
  have C := lawStart w
  refine (c_light l q c).call C hs fun v m1 w2 hk hm1 _ C => ⟨_, rfl, hk.size, ?_⟩
  obtain ⟨v, hv⟩ := v
  cases v with
  | false =>
    rw [if_neg (by simp)]
    refine c_knows.call (As := []) C trivial fun _ m2 w5 hk hm _ C => ⟨true, rfl, hk.size, rfl, C.at_⟩
  | true =>
  rw [if_pos (by simp)]
  have h100 := hv rfl
  refine c_knows.call (As := []) C trivial fun _ m2 w8 hk hm2 _ C => ⟨true, rfl, hk.size, ?_⟩
  rw [if_neg (by simp)]
  refine (c_New a).call (As := []) C trivial fun b m3 w11 hk hm3 _ C => ⟨_, rfl, hk.size, ?_⟩
  replace hs := ((hs.mono hm1).mono hm2).mono hm3
  clear hm1 hm2 hm3 hk hv
  let I0 : Nat → Tb → List I → World → Option Addr → Nat → Nat → Mem → Prop := fun i t B w' q k c m => k = B.length ∧ B.length ≤ i ∧ m3.le m ∧ Once t B ∧ Ctx [] (memOf w) w w' [] m [tbA b t, idsA q B.length c B]
  refine ⟨fun q k c n w' L' => ∃ (i : Nat) (t : Tb) (B : List I) (m : Mem), n = i ∧ i ≤ l.length ∧ I0 i t B w' q k c m, fun _ _ _ n _ => (l.length - n).toNat,
    ⟨0, tb0 a, [], m3, rfl, by omega, rfl, Nat.le_refl _, Mem.le_refl _, (fun d hd => by cases hd), (Ctx.slNil C).swap⟩, ?_⟩
  clear C
  rintro qb k cb n w19 L20 _ ⟨i, t, B, m, rfl, hi, rfl, hBi, hmm, hO, D⟩
  by_cases hlt : i < l.length
  rotate_left
  · rw [if_neg (by simpa using hlt)]
    exact ⟨rfl, D.at_⟩
  rw [if_pos (by simpa using hlt)]
  have e : IntKind.wrap .i64 ((i : Int) + 1) = ((i + 1 : Nat) : Int) := by rw [w_i64 (by omega) (by omega)]; omega
  have hmeas : Nat.le (((l.length : Int) - ((i + 1 : Nat) : Int)).toNat + 1) ((l.length : Int) - (i : Int)).toNat := Nat.le_of_eq (by omega)
  refine ⟨by omega, by simpa using hlt, ?_⟩
  obtain ⟨pa, rfl, hcell⟩ := (hs.mono hmm).elem ac_len hlt
  rw [onSome_some]
  have hd := hl _ (List.getElem_mem hlt)
  refine ⟨l[i].kd, l[i].d.n, l[i].d.l, l[i].d.s, l[i].d.d, l[i].d.g0, l[i].d.i0, l[i].d.g1, l[i].d.i1, l[i].d.g2, l[i].d.i2, l[i].c, l[i].v, l[i].nn, D.cells hcell, ?_⟩
  obtain ⟨hO1, hO2⟩ := hO.act l[i]
  refine (c_do b t l[i].kd l[i].d hd l[i].c l[i].v l[i].nn).call (As := [idsA qb B.length cb B]) D trivial fun _ m4 w37 hk hm4 _ D => ⟨_, rfl, hk.size, ?_⟩
  have hmm4 := hmm.le_trans hm4
  change Once (doF t ⟨l[i].kd, l[i].d, l[i].c, l[i].v, l[i].nn⟩).2 B at hO1
  change (doF t ⟨l[i].kd, l[i].d, l[i].c, l[i].v, l[i].nn⟩).1 = true → l[i].d ∉ B ∧ Once (doF t ⟨l[i].kd, l[i].d, l[i].c, l[i].v, l[i].nn⟩).2 (B ++ [l[i].d]) at hO2
  generalize doF t ⟨l[i].kd, l[i].d, l[i].c, l[i].v, l[i].nn⟩ = r at D hO1 hO2 ⊢
  obtain ⟨ok, t'⟩ := r
  cases ok with
  | false =>
    rw [if_pos (by simp), e]
    exact ⟨⟨i + 1, t', B, m4, rfl, hlt, rfl, by omega, hmm4, hO1, Ctx.noL D⟩, hmeas⟩
  | true =>
  rw [if_neg (by simp)]
  obtain ⟨hnB, hO3⟩ := hO2 rfl
  clear hO1 hO2
  have hcell4 := hcell.mono hm4
  have hidc : MCells m4 ((pa.add (i * 14)).add 1) l[i].d.row := fun j v hv => by
    have h2 := hcell4 (1 + j) v (ac_d hv)
    rw [Addr.add_add]; exact h2
  refine ⟨fun n w' _ => ∃ j : Nat, n = j ∧ j ≤ B.length ∧ Ctx [] (memOf w) w w' [] m4 [idsA qb B.length cb B, tbA b t'], fun n _ => (B.length - n).toNat, ⟨0, rfl, by omega, Ctx.noL D.swap⟩, ?_⟩
  clear D hk
  rintro n w42 L43 _ ⟨j, rfl, hj, D⟩
  by_cases hjl : j < B.length
  · rw [if_pos (by simpa using hjl)]
    refine ⟨by omega, by simpa using hjl, ?_⟩
    have hc := D.slCells
    cases qb with
    | none => exact absurd (hc.2 rfl) (by cases B with | nil => simp at hjl | cons => simp)
    | some pb =>
    rw [onSome_some]
    have hcl := cells_elem i_len (hc.1 pb rfl).1 j hjl
    refine ⟨_, _, _, _, _, _, _, _, _, _, hcl, by omega, by simpa using hlt, ?_⟩
    rw [onSome_some]
    refine ⟨_, _, _, _, _, _, _, _, _, _, D.cells hidc, ?_⟩
    rw [if_neg (by rw [i_eq]; exact fun he => hnB (he ▸ List.getElem_mem hjl))]
    intro w81 h81
    have e2 : IntKind.wrap .i64 ((j : Int) + 1) = ((j + 1 : Nat) : Int) := by rw [w_i64 (by omega) (by omega)]; omega
    rw [e2]
    exact ⟨⟨j + 1, rfl, hjl, D.hid0 h81⟩, Nat.le_of_eq (by show ((B.length : Int) - ((j + 1 : Nat) : Int)).toNat + 1 = ((B.length : Int) - (j : Int)).toNat; omega)⟩
  · rw [if_neg (by simpa using hjl)]
    refine ⟨by omega, by simpa using hlt, ?_⟩
    rw [onSome_some]
    refine ⟨_, _, _, _, _, _, _, _, _, _, D.cells hidc, ?_⟩
    have D1 := (D.alloc l[i].d.row 37).swap
    have hcl : Cells (w42.alloc (.cells l[i].d.row.toArray 37)) ⟨w42.heap.size, 0, none⟩ l[i].d.row := (D.alloc l[i].d.row 37).blkCells (o := 0) fun j v e => by simpa using e
    obtain ⟨q2, c2, w58, hr, hkk, D2⟩ := D1.app (P := Try.prog) (bytes := 200) (t := 27) (t2 := 27) 27 (by kernel_rfl) (.some ⟨w42.heap.size, 0, none⟩ 1 1 l[i].d.row rfl hcl) (by omega) (i_one _)
    refine ⟨q2, B.length + 1, c2, w58, hr, hkk.size, ?_, ?_⟩
    · rw [e]
      refine ⟨i + 1, t', B ++ [l[i].d], m4, rfl, hlt, by simp, by simp; omega, hmm4, hO3, ?_⟩
      have D3 := D2.pk [2, 0] [1] rfl
      simp only [sel, nth] at D3
      have e3 : (B ++ [l[i].d]).length = B.length + 1 := by simp
      have e4 : (B ++ [l[i].d]).flatMap I.row = B.flatMap I.row ++ l[i].d.row := by simp
      unfold idsA
      rw [e3, e4]
      exact D3
    · rw [e]; exact hmeas
end Go.Proofs
