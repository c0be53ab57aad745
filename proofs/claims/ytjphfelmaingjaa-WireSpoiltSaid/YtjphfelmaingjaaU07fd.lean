import Derived.Test.YtjphfelmaingjaaU07fb
set_option linter.unusedVariables false
set_option linter.unusedSimpArgs false
set_option maxRecDepth 10000
namespace Go.Proofs
open Go X RowKit
/-! ### the document's messages that may be -/
theorem c_rEntries (q : Sl) (l : List En) (g : Int) (hl : l.length ≤ 100000) (hi : ∀ e ∈ l, EvIn e.er) : Ctr Try.prog 92 #[slV q l.length, .int .u8 g] (fun m => EsM m q l) [] (fun _ : Unit => .bool (allE (l.map En.er) g)) (fun _ _ => True) (fun _ => []) := by
  refine Ctr.mk fun w F m C hp => x_rEntries _ _ _ _ w _ ?_
  have hlen : (l.map En.er).length = l.length := by simp
  have hall : (l.map En.er).all (·.right g) = l.all (fun e => e.er.right g) := by rw [List.all_map]; rfl
  rw [show allE (l.map En.er) g = (decide (l.length ≤ 400) && l.all (fun e => e.er.right g)) by rw [allE, hlen, hall]]
  refine ⟨fun i w' _ => ∃ (j : Nat) (m' : Mem), i = j ∧ j ≤ l.length ∧ m.le m' ∧ ((l.take j).all fun e => e.er.right g) = true ∧ Ctx F m w w' [] m' [], fun i _ => (l.length - i).toNat, ⟨0, m, rfl, by omega, Mem.le_refl _, rfl, C⟩, ?_⟩
  clear C
  rintro i w4 L5 _ ⟨j, m', rfl, hj, hm, hjt, D⟩
  by_cases hjl : j < l.length ∧ j ≤ 400
  · rw [if_pos (by simp; omega)]
    obtain ⟨hjl, h400⟩ := hjl
    obtain ⟨a, ha, hc⟩ := (hp.1.mono hm).elem en_len hjl
    have ha : q.1 = some a := ha
    have he := (hp.2 _ (List.getElem_mem hjl)).mono hm
    have hie := hi _ (List.getElem_mem hjl)
    have ht : (l.take (j + 1)).all (fun e => e.er.right g) = ((l.take j).all (fun e => e.er.right g) && l[j].er.right g) := by rw [List.take_succ_eq_append_getElem hjl, List.all_append]; simp
    have hin : l[j] ∈ l := List.getElem_mem hjl
    generalize l[j] = x at hc he hie ht hin
    refine ⟨by omega, by simpa using hjl, ?_⟩
    rw [ha, onSome_some]
    refine ⟨_, _, _, _, _, _, _, _, _, _, _, _, _, _, _, _, _, _, _, _, _, _, by rw [Int.toNat_natCast]; exact D.cells hc, ?_⟩
    refine (c_r5Right x g hie).call (As := []) D he fun _ m2 w13 hk hm2 _ D => ⟨_, rfl, hk.size, ?_⟩
    by_cases hr : x.er.right g = true
    · rw [if_neg (by simp [hr])]
      have e : IntKind.wrap .i64 ((j : Int) + 1) = ((j + 1 : Nat) : Int) := by rw [w_i64 (by omega) (by omega)]; omega
      rw [e]
      refine ⟨⟨j + 1, m2, rfl, hjl, hm.le_trans hm2, by rw [ht, hjt, hr]; rfl, D⟩, Nat.le_of_eq (by show ((l.length : Int) - ((j + 1 : Nat) : Int)).toNat + 1 = ((l.length : Int) - (j : Int)).toNat; omega)⟩
    · rw [if_pos (by simp [hr])]
      refine Ctr.ret () ?_ trivial D
      have : (l.all fun e => e.er.right g) = false := by rw [Bool.eq_false_iff]; intro h; exact hr (List.all_eq_true.1 h _ hin)
      rw [this, Bool.and_false]
  · rw [if_neg (by simp; omega)]
    refine Ctr.ret () ?_ trivial D
    by_cases hj2 : j = l.length
    · rw [hj2, List.take_length] at hjt
      rw [hjt, Bool.and_true]
      congr 2
      rw [Bool.eq_iff_iff]; simp; omega
    · have h2 : ¬ l.length ≤ 400 := by omega
      have h3 : ¬ ((l.length : Nat) : Int) ≤ 400 := by omega
      simp [h2, h3]
def fldS (k : Int) : List UInt8 :=
  if k = 0 then [103, 105, 102, 112]
  else if k = 1 then [105, 114, 118]
  else if k = 2 then [105, 99]
  else if k = 3 then [103, 110, 97, 107, 101]
  else if k = 4 then [103, 110, 97]
  else if k = 5 then [103, 110, 98]
  else if k = 6 then [103, 110, 98]
  else if k = 7 then [103, 110, 98]
  else if k = 8 then [103, 110, 98, 101, 104]
  else if k = 9 then [103, 110, 98, 109]
  else if k = 10 then [118, 101]
  else if k = 11 then [103, 115]
  else if k = 12 then [103, 115]
  else if k = 13 then [103, 115]
  else []
theorem fldS0 {k : Int} (h : k = 0) : fldS k = [103, 105, 102, 112] := by rw [fldS, if_pos h]
theorem fldS1 {k : Int} (h : k = 1) : fldS k = [105, 114, 118] := by rw [fldS, if_neg (by omega), if_pos h]
theorem fldS2 {k : Int} (h : k = 2) : fldS k = [105, 99] := by rw [fldS, if_neg (by omega), if_neg (by omega), if_pos h]
theorem fldS3 {k : Int} (h : k = 3) : fldS k = [103, 110, 97, 107, 101] := by rw [fldS, if_neg (by omega), if_neg (by omega), if_neg (by omega), if_pos h]
theorem fldS4 {k : Int} (h : k = 4) : fldS k = [103, 110, 97] := by rw [fldS, if_neg (by omega), if_neg (by omega), if_neg (by omega), if_neg (by omega), if_pos h]
theorem fldS5 {k : Int} (h : k = 5) : fldS k = [103, 110, 98] := by rw [fldS, if_neg (by omega), if_neg (by omega), if_neg (by omega), if_neg (by omega), if_neg (by omega), if_pos h]
theorem fldS6 {k : Int} (h : k = 6) : fldS k = [103, 110, 98] := by rw [fldS, if_neg (by omega), if_neg (by omega), if_neg (by omega), if_neg (by omega), if_neg (by omega), if_neg (by omega), if_pos h]
theorem fldS7 {k : Int} (h : k = 7) : fldS k = [103, 110, 98] := by rw [fldS, if_neg (by omega), if_neg (by omega), if_neg (by omega), if_neg (by omega), if_neg (by omega), if_neg (by omega), if_neg (by omega), if_pos h]
theorem fldS8 {k : Int} (h : k = 8) : fldS k = [103, 110, 98, 101, 104] := by rw [fldS, if_neg (by omega), if_neg (by omega), if_neg (by omega), if_neg (by omega), if_neg (by omega), if_neg (by omega), if_neg (by omega), if_neg (by omega), if_pos h]
theorem fldS9 {k : Int} (h : k = 9) : fldS k = [103, 110, 98, 109] := by rw [fldS, if_neg (by omega), if_neg (by omega), if_neg (by omega), if_neg (by omega), if_neg (by omega), if_neg (by omega), if_neg (by omega), if_neg (by omega), if_neg (by omega), if_pos h]
theorem fldS10 {k : Int} (h : k = 10) : fldS k = [118, 101] := by rw [fldS, if_neg (by omega), if_neg (by omega), if_neg (by omega), if_neg (by omega), if_neg (by omega), if_neg (by omega), if_neg (by omega), if_neg (by omega), if_neg (by omega), if_neg (by omega), if_pos h]
theorem fldS11 {k : Int} (h : k = 11) : fldS k = [103, 115] := by rw [fldS, if_neg (by omega), if_neg (by omega), if_neg (by omega), if_neg (by omega), if_neg (by omega), if_neg (by omega), if_neg (by omega), if_neg (by omega), if_neg (by omega), if_neg (by omega), if_neg (by omega), if_pos h]
theorem fldS12 {k : Int} (h : k = 12) : fldS k = [103, 115] := by rw [fldS, if_neg (by omega), if_neg (by omega), if_neg (by omega), if_neg (by omega), if_neg (by omega), if_neg (by omega), if_neg (by omega), if_neg (by omega), if_neg (by omega), if_neg (by omega), if_neg (by omega), if_neg (by omega), if_pos h]
theorem fldS13 {k : Int} (h : k = 13) : fldS k = [103, 115] := by rw [fldS, if_neg (by omega), if_neg (by omega), if_neg (by omega), if_neg (by omega), if_neg (by omega), if_neg (by omega), if_neg (by omega), if_neg (by omega), if_neg (by omega), if_neg (by omega), if_neg (by omega), if_neg (by omega), if_neg (by omega), if_pos h]
theorem fldSo {k : Int} (h : ¬ (0 ≤ k ∧ k ≤ 13)) : fldS k = [] := by rw [fldS, if_neg (by omega), if_neg (by omega), if_neg (by omega), if_neg (by omega), if_neg (by omega), if_neg (by omega), if_neg (by omega), if_neg (by omega), if_neg (by omega), if_neg (by omega), if_neg (by omega), if_neg (by omega), if_neg (by omega), if_neg (by omega)]
abbrev fldT : List Value := [.string (ByteArray.mk #[OfNat.ofNat 103, OfNat.ofNat 105, OfNat.ofNat 102, OfNat.ofNat 112]), .string (ByteArray.mk #[OfNat.ofNat 105, OfNat.ofNat 114, OfNat.ofNat 118]), .string (ByteArray.mk #[OfNat.ofNat 105, OfNat.ofNat 99]), .string (ByteArray.mk #[OfNat.ofNat 103, OfNat.ofNat 110, OfNat.ofNat 97, OfNat.ofNat 107, OfNat.ofNat 101]), .string (ByteArray.mk #[OfNat.ofNat 103, OfNat.ofNat 110, OfNat.ofNat 97]), .string (ByteArray.mk #[OfNat.ofNat 103, OfNat.ofNat 110, OfNat.ofNat 98]), .string (ByteArray.mk #[OfNat.ofNat 103, OfNat.ofNat 110, OfNat.ofNat 98]), .string (ByteArray.mk #[OfNat.ofNat 103, OfNat.ofNat 110, OfNat.ofNat 98]), .string (ByteArray.mk #[OfNat.ofNat 103, OfNat.ofNat 110, OfNat.ofNat 98, OfNat.ofNat 101, OfNat.ofNat 104]), .string (ByteArray.mk #[OfNat.ofNat 103, OfNat.ofNat 110, OfNat.ofNat 98, OfNat.ofNat 109]), .string (ByteArray.mk #[OfNat.ofNat 118, OfNat.ofNat 101]), .string (ByteArray.mk #[OfNat.ofNat 103, OfNat.ofNat 115]), .string (ByteArray.mk #[OfNat.ofNat 103, OfNat.ofNat 115]), .string (ByteArray.mk #[OfNat.ofNat 103, OfNat.ofNat 115])]
theorem ctx_bel0 {m0 : Mem} {w0 w : World} {L : List Nat} {m : Mem} {As : List Asn} (C : Ctx [] m0 w0 w L m As) : Bel w0.heap.size w0 w := hid_below C.hid (by simp) (Nat.le_refl _)
theorem bl_ext {a b : ByteArray} (h : a.data.toList = b.data.toList) : a = b := ByteArray.ext (Array.toList_inj.1 h)
theorem c_rFields (k : Int) (h0 : 0 ≤ k ∧ k < 256) : Gives Try.prog 89 #[.int .u8 k] (.string (toBA (fldS k))) := by
  intro w
  refine x_rFields _ w _ ?_
  have C := (lawStart w).alloc fldT 9
  rw [w_i64 (n := k) (by omega) (by omega)]
  by_cases hk : k ≥ 14
  · rw [if_pos (by simpa using hk), fldSo (by omega)]
    exact ⟨rfl, ctx_bel0 C⟩
  · rw [if_neg (by simpa using hk)]
    have hk' : k = 0 ∨ k = 1 ∨ k = 2 ∨ k = 3 ∨ k = 4 ∨ k = 5 ∨ k = 6 ∨ k = 7 ∨ k = 8 ∨ k = 9 ∨ k = 10 ∨ k = 11 ∨ k = 12 ∨ k = 13 := by omega
    rcases hk' with rfl | rfl | rfl | rfl | rfl | rfl | rfl | rfl | rfl | rfl | rfl | rfl | rfl | rfl
    · refine ⟨by omega, by omega, toBA (fldS 0), ?_, rfl, ctx_bel0 C⟩
      rw [fldS0 rfl]
      exact C.blkCell (j := 0) rfl
    · refine ⟨by omega, by omega, toBA (fldS 1), ?_, rfl, ctx_bel0 C⟩
      rw [fldS1 rfl]
      exact C.blkCell (j := 1) rfl
    · refine ⟨by omega, by omega, toBA (fldS 2), ?_, rfl, ctx_bel0 C⟩
      rw [fldS2 rfl]
      exact C.blkCell (j := 2) rfl
    · refine ⟨by omega, by omega, toBA (fldS 3), ?_, rfl, ctx_bel0 C⟩
      rw [fldS3 rfl]
      exact C.blkCell (j := 3) rfl
    · refine ⟨by omega, by omega, toBA (fldS 4), ?_, rfl, ctx_bel0 C⟩
      rw [fldS4 rfl]
      exact C.blkCell (j := 4) rfl
    · refine ⟨by omega, by omega, toBA (fldS 5), ?_, rfl, ctx_bel0 C⟩
      rw [fldS5 rfl]
      exact C.blkCell (j := 5) rfl
    · refine ⟨by omega, by omega, toBA (fldS 6), ?_, rfl, ctx_bel0 C⟩
      rw [fldS6 rfl]
      exact C.blkCell (j := 6) rfl
    · refine ⟨by omega, by omega, toBA (fldS 7), ?_, rfl, ctx_bel0 C⟩
      rw [fldS7 rfl]
      exact C.blkCell (j := 7) rfl
    · refine ⟨by omega, by omega, toBA (fldS 8), ?_, rfl, ctx_bel0 C⟩
      rw [fldS8 rfl]
      exact C.blkCell (j := 8) rfl
    · refine ⟨by omega, by omega, toBA (fldS 9), ?_, rfl, ctx_bel0 C⟩
      rw [fldS9 rfl]
      exact C.blkCell (j := 9) rfl
    · refine ⟨by omega, by omega, toBA (fldS 10), ?_, rfl, ctx_bel0 C⟩
      rw [fldS10 rfl]
      exact C.blkCell (j := 10) rfl
    · refine ⟨by omega, by omega, toBA (fldS 11), ?_, rfl, ctx_bel0 C⟩
      rw [fldS11 rfl]
      exact C.blkCell (j := 11) rfl
    · refine ⟨by omega, by omega, toBA (fldS 12), ?_, rfl, ctx_bel0 C⟩
      rw [fldS12 rfl]
      exact C.blkCell (j := 12) rfl
    · refine ⟨by omega, by omega, toBA (fldS 13), ?_, rfl, ctx_bel0 C⟩
      rw [fldS13 rfl]
      exact C.blkCell (j := 13) rfl
def letL (k : Int) (has : Bool) : List UInt8 := if k = 8 ∧ has = true then fldS k ++ [120, 109] else fldS k
theorem fldS_len (k : Int) : (fldS k).length ≤ 5 := by
  have hk : k = 0 ∨ k = 1 ∨ k = 2 ∨ k = 3 ∨ k = 4 ∨ k = 5 ∨ k = 6 ∨ k = 7 ∨ k = 8 ∨ k = 9 ∨ k = 10 ∨ k = 11 ∨ k = 12 ∨ k = 13 ∨ ¬ (0 ≤ k ∧ k ≤ 13) := by omega
  rcases hk with h | h | h | h | h | h | h | h | h | h | h | h | h | h | h
  · rw [fldS0 h]; decide
  · rw [fldS1 h]; decide
  · rw [fldS2 h]; decide
  · rw [fldS3 h]; decide
  · rw [fldS4 h]; decide
  · rw [fldS5 h]; decide
  · rw [fldS6 h]; decide
  · rw [fldS7 h]; decide
  · rw [fldS8 h]; decide
  · rw [fldS9 h]; decide
  · rw [fldS10 h]; decide
  · rw [fldS11 h]; decide
  · rw [fldS12 h]; decide
  · rw [fldS13 h]; decide
  · rw [fldSo h]; decide
theorem c_rLetters (x : Mg) (hk : 0 ≤ x.kd ∧ x.kd < 256) : Gives Try.prog 36 #[.agg x.row.toArray] (.string (toBA (letL x.kd x.has))) := by
  intro w
  refine x_rLetters _ _ _ _ _ _ _ _ _ _ _ _ _ _ _ _ _ _ _ _ _ _ _ _ _ _ _ _ _ _ _ _ _ _ _ _ _ _ _ _ _ w _ fun w1 L2 h1 g1 => ?_
  refine ((lawStart w).hidL h1 g1).gives (c_rFields x.kd hk) fun w4 k4 C => ⟨_, rfl, k4, ?_⟩
  by_cases h8 : x.kd = 8 ∧ x.has = true
  · rw [if_pos (by simp [h8.1, h8.2])]
    have e : toBA (fldS x.kd) ++ ByteArray.mk #[OfNat.ofNat 120, OfNat.ofNat 109] = toBA (letL x.kd x.has) := by
      rw [letL, if_pos h8]
      apply bl_ext
      rw [ByteArray.data_append]; simp [toBA]
    refine ⟨?_, by rw [e], ctx_bel0 C⟩
    have := fldS_len x.kd
    show ((((fldS x.kd).toArray.size + 2 : Nat)) : Int) ≤ _
    rw [List.size_toArray]; omega
  · rw [if_neg (by intro h; apply h8; simpa using h)]
    exact ⟨by rw [letL, if_neg h8], ctx_bel0 C⟩
def Mv.eg (x : Mv) : Int := if x.kd = 10 then x.vg else x.gr
def Mv.prt (x : Mv) : Bool := rightL x.ps && (match x.ps with | [] => false | p :: _ => p.g == x.gr) && decide ((x.ps.length : Int) + x.id.d ≤ 4)
def Mv.fldR (x : Mv) (c : Int) : Bool :=
  if c = 103 then decide (x.gr < 4)
  else if c = 105 then x.id.right
  else if c = 102 then decide (x.fl < x.id.s)
  else if c = 112 then x.prt
  else if c = 114 then x.resR
  else if c = 118 then vwOk x.vg x.vn x.vm
  else if c = 110 then decide (x.nn ≥ 1)
  else if c = 97 then decide (x.fr ≤ 400)
  else if c = 107 then decide (x.cm ≤ 400)
  else if c = 101 then (allE x.es x.eg && decide (x.fr + (x.es.length : Int) ≤ 400))
  else if c = 98 then decide (x.ba ≥ 1)
  else if c = 120 then decide (x.ac ≥ 1)
  else if c = 109 then (vwOk 0 1 x.ms && allE x.ts x.eg)
  else if c = 115 then prOk x.pn x.pl
  else true
theorem fR103 {x : Mv} {c : Int} (h : c = 103) : x.fldR c = decide (x.gr < 4) := by rw [Mv.fldR, if_pos h]
theorem fR105 {x : Mv} {c : Int} (h : c = 105) : x.fldR c = x.id.right := by rw [Mv.fldR, if_neg (by omega), if_pos h]
theorem fR102 {x : Mv} {c : Int} (h : c = 102) : x.fldR c = decide (x.fl < x.id.s) := by rw [Mv.fldR, if_neg (by omega), if_neg (by omega), if_pos h]
theorem fR112 {x : Mv} {c : Int} (h : c = 112) : x.fldR c = x.prt := by rw [Mv.fldR, if_neg (by omega), if_neg (by omega), if_neg (by omega), if_pos h]
theorem fR114 {x : Mv} {c : Int} (h : c = 114) : x.fldR c = x.resR := by rw [Mv.fldR, if_neg (by omega), if_neg (by omega), if_neg (by omega), if_neg (by omega), if_pos h]
theorem fR118 {x : Mv} {c : Int} (h : c = 118) : x.fldR c = vwOk x.vg x.vn x.vm := by rw [Mv.fldR, if_neg (by omega), if_neg (by omega), if_neg (by omega), if_neg (by omega), if_neg (by omega), if_pos h]
theorem fR110 {x : Mv} {c : Int} (h : c = 110) : x.fldR c = decide (x.nn ≥ 1) := by rw [Mv.fldR, if_neg (by omega), if_neg (by omega), if_neg (by omega), if_neg (by omega), if_neg (by omega), if_neg (by omega), if_pos h]
theorem fR97 {x : Mv} {c : Int} (h : c = 97) : x.fldR c = decide (x.fr ≤ 400) := by rw [Mv.fldR, if_neg (by omega), if_neg (by omega), if_neg (by omega), if_neg (by omega), if_neg (by omega), if_neg (by omega), if_neg (by omega), if_pos h]
theorem fR107 {x : Mv} {c : Int} (h : c = 107) : x.fldR c = decide (x.cm ≤ 400) := by rw [Mv.fldR, if_neg (by omega), if_neg (by omega), if_neg (by omega), if_neg (by omega), if_neg (by omega), if_neg (by omega), if_neg (by omega), if_neg (by omega), if_pos h]
theorem fR101 {x : Mv} {c : Int} (h : c = 101) : x.fldR c = (allE x.es x.eg && decide (x.fr + (x.es.length : Int) ≤ 400)) := by rw [Mv.fldR, if_neg (by omega), if_neg (by omega), if_neg (by omega), if_neg (by omega), if_neg (by omega), if_neg (by omega), if_neg (by omega), if_neg (by omega), if_neg (by omega), if_pos h]
theorem fR98 {x : Mv} {c : Int} (h : c = 98) : x.fldR c = decide (x.ba ≥ 1) := by rw [Mv.fldR, if_neg (by omega), if_neg (by omega), if_neg (by omega), if_neg (by omega), if_neg (by omega), if_neg (by omega), if_neg (by omega), if_neg (by omega), if_neg (by omega), if_neg (by omega), if_pos h]
theorem fR120 {x : Mv} {c : Int} (h : c = 120) : x.fldR c = decide (x.ac ≥ 1) := by rw [Mv.fldR, if_neg (by omega), if_neg (by omega), if_neg (by omega), if_neg (by omega), if_neg (by omega), if_neg (by omega), if_neg (by omega), if_neg (by omega), if_neg (by omega), if_neg (by omega), if_neg (by omega), if_pos h]
theorem fR109 {x : Mv} {c : Int} (h : c = 109) : x.fldR c = (vwOk 0 1 x.ms && allE x.ts x.eg) := by rw [Mv.fldR, if_neg (by omega), if_neg (by omega), if_neg (by omega), if_neg (by omega), if_neg (by omega), if_neg (by omega), if_neg (by omega), if_neg (by omega), if_neg (by omega), if_neg (by omega), if_neg (by omega), if_neg (by omega), if_pos h]
theorem fR115 {x : Mv} {c : Int} (h : c = 115) : x.fldR c = prOk x.pn x.pl := by rw [Mv.fldR, if_neg (by omega), if_neg (by omega), if_neg (by omega), if_neg (by omega), if_neg (by omega), if_neg (by omega), if_neg (by omega), if_neg (by omega), if_neg (by omega), if_neg (by omega), if_neg (by omega), if_neg (by omega), if_neg (by omega), if_pos h]
theorem fRo {x : Mv} {c : Int} (h : c ≠ 103 ∧ c ≠ 105 ∧ c ≠ 102 ∧ c ≠ 112 ∧ c ≠ 114 ∧ c ≠ 118 ∧ c ≠ 110 ∧ c ≠ 97 ∧ c ≠ 107 ∧ c ≠ 101 ∧ c ≠ 98 ∧ c ≠ 120 ∧ c ≠ 109 ∧ c ≠ 115) : x.fldR c = true := by rw [Mv.fldR, if_neg (by omega), if_neg (by omega), if_neg (by omega), if_neg (by omega), if_neg (by omega), if_neg (by omega), if_neg (by omega), if_neg (by omega), if_neg (by omega), if_neg (by omega), if_neg (by omega), if_neg (by omega), if_neg (by omega), if_neg (by omega)]
theorem c_rField (x : Mg) (c : Int) (hi : MvIn x.er) : Ctr Try.prog 37 #[.agg x.row.toArray, .int .u8 c] (fun m => MgM m x) [] (fun _ : Unit => .bool (x.er.fldR c)) (fun _ _ => True) (fun _ => []) := by
  refine Ctr.mk fun w F m C hx => x_rField _ _ _ _ _ _ _ _ _ _ _ _ _ _ _ _ _ _ _ _ _ _ _ _ _ _ _ _ _ _ _ _ _ _ _ _ _ _ _ _ _ _ w _ ?_
  have hidd : 0 ≤ x.id.d ∧ x.id.d < 256 := hi.id.d
  have hpl := hx.pl
  have hlen : ((x.es.map En.er).length : Int) = x.es.length := by simp
  by_cases hk10 : x.kd = 10
  · rw [if_pos (by simpa using hk10)]
    by_cases c103 : c = 103
    · rw [if_pos (by simpa using c103)]
      intro w1 h1
      exact Ctr.ret () (by rw [fR103 c103]; rfl) trivial (C.hid0 h1)
    rw [if_neg (by simpa using c103)]
    by_cases c105 : c = 105
    · rw [if_pos (by simpa using c105)]
      intro w1 L2 h1 g1
      exact (C.hidL h1 g1).gives (c_ref_Right x.id hi.id) fun w5 k5 C => ⟨_, rfl, k5, Ctr.ret () (by rw [fR105 c105]; rfl) trivial C⟩
    rw [if_neg (by simpa using c105)]
    by_cases c102 : c = 102
    · rw [if_pos (by simpa using c102)]
      intro w1 h1
      exact Ctr.ret () (by rw [fR102 c102]; rfl) trivial (C.hid0 h1)
    rw [if_neg (by simpa using c102)]
    by_cases c112 : c = 112
    · rw [if_pos (by simpa using c112)]
      refine ⟨[], facts_nil _ _, fun w2 L3 h2 g2 => ?_⟩
      refine (c_r3RightAll x.pq x.ps (by omega) (fun p h => (hi.ps p h).k.1)).call (As := []) (C.hidL h2 g2) hx.p fun _ m2 w14 hk hm2 _ C => ⟨_, rfl, hk, facts_nil _ _, ?_⟩
      by_cases hl : rightL x.ps = true
      rotate_left
      · refine ⟨[], facts_nil _ _, (fun _ h => h), ?_⟩
        rw [if_neg (by rw [Bool.eq_false_iff.2 hl]; decide)]
        refine ⟨[], facts_nil _ _, (fun _ h => h), Ctr.ret () ?_ trivial C⟩
        have : rightL x.er.ps = false := Bool.eq_false_iff.2 hl
        rw [fR112 c112, Mv.prt, this]; rfl
      have hl0 : 1 ≤ x.ps.length ∧ x.ps.length ≤ 4 := by
        have := hl; simp only [rightL, Bool.and_eq_true, decide_eq_true_eq] at this; exact this.1
      obtain ⟨a, ha, hc⟩ := (hx.p.mono hm2).elem pt_len (i := 0) (by omega)
      have ha : x.pq.1 = some a := ha
      refine ⟨_, C.memFact (mcells_part hc 0 [.int .u8 x.ps[0].g] (fun k v e => by match k, e with | 0, e => exact e)) (facts_nil _ _), (fun _ h => by cases h), ?_⟩
      rw [if_pos (by rw [hl]; rfl)]
      refine ⟨by omega, by omega, ?_⟩
      rw [ha, onSome_some]
      refine ⟨_, List.mem_cons_self, ?_⟩
      rw [w_i64 (n := x.id.d) (by omega) (by omega), w_i64 (n := _ + x.id.d) (by omega) (by omega)]
      refine Ctr.ret () ?_ trivial C
      obtain ⟨p, l, hpl⟩ : ∃ p l, x.ps = p :: l := by
        cases hps : x.ps with
        | nil => rw [hps] at hl0; simp at hl0
        | cons p l => exact ⟨p, l, rfl⟩
      have h2 : rightL x.er.ps = true := hl
      have h3 : x.er.ps = p :: l := hpl
      rw [fR112 c112, Mv.prt, h2, h3]
      have e1 : x.ps[0].g = p.g := by simp [hpl]
      rw [e1, hpl]; rfl
    rw [if_neg (by simpa using c112)]
    by_cases c114 : c = 114
    · rw [if_pos (by simpa using c114)]
      intro w1 L2 h1 g1
      exact (C.hidL h1 g1).gives (c_rRightRes ⟨x.rc, x.rv⟩) fun w5 k5 C => ⟨_, rfl, k5, Ctr.ret () (by rw [fR114 c114]; rfl) trivial C⟩
    rw [if_neg (by simpa using c114)]
    by_cases c118 : c = 118
    · rw [if_pos (by simpa using c118)]
      intro w1 L2 h1 g1
      exact (c_rRight ⟨x.vg, x.vn, x.vq, x.vm⟩ hi.vm hi.vn).call (As := []) (C.hidL h1 g1) hx.v fun _ m2 w7 hk hm _ C => ⟨_, rfl, hk, Ctr.ret () (by rw [fR118 c118]; rfl) trivial C⟩
    rw [if_neg (by simpa using c118)]
    by_cases c110 : c = 110
    · rw [if_pos (by simpa using c110)]
      intro w1 h1
      exact Ctr.ret () (by rw [fR110 c110]; rfl) trivial (C.hid0 h1)
    rw [if_neg (by simpa using c110)]
    by_cases c97 : c = 97
    · rw [if_pos (by simpa using c97)]
      intro w1 h1
      exact Ctr.ret () (by rw [fR97 c97]; rfl) trivial (C.hid0 h1)
    rw [if_neg (by simpa using c97)]
    by_cases c107 : c = 107
    · rw [if_pos (by simpa using c107)]
      intro w1 h1
      exact Ctr.ret () (by rw [fR107 c107]; rfl) trivial (C.hid0 h1)
    rw [if_neg (by simpa using c107)]
    by_cases c101 : c = 101
    · rw [if_pos (by simpa using c101)]
      intro w1 L2 h1 g1
      refine (c_rEntries x.eq x.es x.vg hx.el (fun e he => hi.es _ (List.mem_map_of_mem he))).call (As := []) (C.hidL h1 g1) hx.e fun _ m2 w7 hk hm _ C => ⟨_, rfl, hk, Ctr.ret () ?_ trivial C⟩
      rw [wrapFr hi hx.el, fR101 c101, Mv.eg, if_pos (show x.er.kd = 10 from hk10)]
      show _ = Ending.returned (.bool (allE (x.es.map En.er) x.vg && decide (x.fr + ((x.es.map En.er).length : Int) ≤ 400)))
      rw [hlen]
    rw [if_neg (by simpa using c101)]
    by_cases c98 : c = 98
    · rw [if_pos (by simpa using c98)]
      intro w1 h1
      exact Ctr.ret () (by rw [fR98 c98]; rfl) trivial (C.hid0 h1)
    rw [if_neg (by simpa using c98)]
    by_cases c120 : c = 120
    · rw [if_pos (by simpa using c120)]
      intro w1 h1
      exact Ctr.ret () (by rw [fR120 c120]; rfl) trivial (C.hid0 h1)
    rw [if_neg (by simpa using c120)]
    by_cases c109 : c = 109
    · rw [if_pos (by simpa using c109)]
      intro w1 L2 h1 g1
      refine (c_rRight ⟨0, 1, x.mq, x.ms⟩ hi.ms (by show (0 : Int) ≤ 1; decide)).call (As := []) (C.hidL h1 g1) hx.mm fun _ m2 w7 hk hm _ C => ⟨_, rfl, hk, ?_⟩
      by_cases hv : Vw.ok ⟨0, 1, x.mq, x.ms⟩ = true
      · rw [if_pos (by rw [hv]; rfl)]
        refine (c_rEntries x.tq x.ts x.vg hx.tl (fun e he => hi.ts _ (List.mem_map_of_mem he))).call (As := []) C (hx.t.mono hm) fun _ m3 w8 hk hm3 _ C => ⟨_, rfl, hk, Ctr.ret () ?_ trivial C⟩
        have : vwOk 0 1 x.er.ms = true := hv
        rw [fR109 c109, this, Mv.eg, if_pos (show x.er.kd = 10 from hk10)]; rfl
      · rw [if_neg (by rw [Bool.eq_false_iff.2 hv]; decide)]
        refine Ctr.ret () ?_ trivial C
        have : vwOk 0 1 x.er.ms = false := Bool.eq_false_iff.2 hv
        rw [fR109 c109, this]; rfl
    rw [if_neg (by simpa using c109)]
    by_cases c115 : c = 115
    · rw [if_pos (by simpa using c115)]
      intro w1 L2 h1 g1
      exact (C.hidL h1 g1).gives (c_rRightP ⟨x.pn, x.pl⟩) fun w5 k5 C => ⟨_, rfl, k5, Ctr.ret () (by rw [fR115 c115]; rfl) trivial C⟩
    rw [if_neg (by simpa using c115)]
    intro w1 h1
    exact Ctr.ret () (by rw [fRo ⟨c103, c105, c102, c112, c114, c118, c110, c97, c107, c101, c98, c120, c109, c115⟩]) trivial (C.hid0 h1)
  · rw [if_neg (by simpa using hk10)]
    by_cases c103 : c = 103
    · rw [if_pos (by simpa using c103)]
      intro w1 h1
      exact Ctr.ret () (by rw [fR103 c103]; rfl) trivial (C.hid0 h1)
    rw [if_neg (by simpa using c103)]
    by_cases c105 : c = 105
    · rw [if_pos (by simpa using c105)]
      intro w1 L2 h1 g1
      exact (C.hidL h1 g1).gives (c_ref_Right x.id hi.id) fun w5 k5 C => ⟨_, rfl, k5, Ctr.ret () (by rw [fR105 c105]; rfl) trivial C⟩
    rw [if_neg (by simpa using c105)]
    by_cases c102 : c = 102
    · rw [if_pos (by simpa using c102)]
      intro w1 h1
      exact Ctr.ret () (by rw [fR102 c102]; rfl) trivial (C.hid0 h1)
    rw [if_neg (by simpa using c102)]
    by_cases c112 : c = 112
    · rw [if_pos (by simpa using c112)]
      refine ⟨[], facts_nil _ _, fun w2 L3 h2 g2 => ?_⟩
      refine (c_r3RightAll x.pq x.ps (by omega) (fun p h => (hi.ps p h).k.1)).call (As := []) (C.hidL h2 g2) hx.p fun _ m2 w14 hk hm2 _ C => ⟨_, rfl, hk, facts_nil _ _, ?_⟩
      by_cases hl : rightL x.ps = true
      rotate_left
      · refine ⟨[], facts_nil _ _, (fun _ h => h), ?_⟩
        rw [if_neg (by rw [Bool.eq_false_iff.2 hl]; decide)]
        refine ⟨[], facts_nil _ _, (fun _ h => h), Ctr.ret () ?_ trivial C⟩
        have : rightL x.er.ps = false := Bool.eq_false_iff.2 hl
        rw [fR112 c112, Mv.prt, this]; rfl
      have hl0 : 1 ≤ x.ps.length ∧ x.ps.length ≤ 4 := by
        have := hl; simp only [rightL, Bool.and_eq_true, decide_eq_true_eq] at this; exact this.1
      obtain ⟨a, ha, hc⟩ := (hx.p.mono hm2).elem pt_len (i := 0) (by omega)
      have ha : x.pq.1 = some a := ha
      refine ⟨_, C.memFact (mcells_part hc 0 [.int .u8 x.ps[0].g] (fun k v e => by match k, e with | 0, e => exact e)) (facts_nil _ _), (fun _ h => by cases h), ?_⟩
      rw [if_pos (by rw [hl]; rfl)]
      refine ⟨by omega, by omega, ?_⟩
      rw [ha, onSome_some]
      refine ⟨_, List.mem_cons_self, ?_⟩
      rw [w_i64 (n := x.id.d) (by omega) (by omega), w_i64 (n := _ + x.id.d) (by omega) (by omega)]
      refine Ctr.ret () ?_ trivial C
      obtain ⟨p, l, hpl⟩ : ∃ p l, x.ps = p :: l := by
        cases hps : x.ps with
        | nil => rw [hps] at hl0; simp at hl0
        | cons p l => exact ⟨p, l, rfl⟩
      have h2 : rightL x.er.ps = true := hl
      have h3 : x.er.ps = p :: l := hpl
      rw [fR112 c112, Mv.prt, h2, h3]
      have e1 : x.ps[0].g = p.g := by simp [hpl]
      rw [e1, hpl]; rfl
    rw [if_neg (by simpa using c112)]
    by_cases c114 : c = 114
    · rw [if_pos (by simpa using c114)]
      intro w1 L2 h1 g1
      exact (C.hidL h1 g1).gives (c_rRightRes ⟨x.rc, x.rv⟩) fun w5 k5 C => ⟨_, rfl, k5, Ctr.ret () (by rw [fR114 c114]; rfl) trivial C⟩
    rw [if_neg (by simpa using c114)]
    by_cases c118 : c = 118
    · rw [if_pos (by simpa using c118)]
      intro w1 L2 h1 g1
      exact (c_rRight ⟨x.vg, x.vn, x.vq, x.vm⟩ hi.vm hi.vn).call (As := []) (C.hidL h1 g1) hx.v fun _ m2 w7 hk hm _ C => ⟨_, rfl, hk, Ctr.ret () (by rw [fR118 c118]; rfl) trivial C⟩
    rw [if_neg (by simpa using c118)]
    by_cases c110 : c = 110
    · rw [if_pos (by simpa using c110)]
      intro w1 h1
      exact Ctr.ret () (by rw [fR110 c110]; rfl) trivial (C.hid0 h1)
    rw [if_neg (by simpa using c110)]
    by_cases c97 : c = 97
    · rw [if_pos (by simpa using c97)]
      intro w1 h1
      exact Ctr.ret () (by rw [fR97 c97]; rfl) trivial (C.hid0 h1)
    rw [if_neg (by simpa using c97)]
    by_cases c107 : c = 107
    · rw [if_pos (by simpa using c107)]
      intro w1 h1
      exact Ctr.ret () (by rw [fR107 c107]; rfl) trivial (C.hid0 h1)
    rw [if_neg (by simpa using c107)]
    by_cases c101 : c = 101
    · rw [if_pos (by simpa using c101)]
      intro w1 L2 h1 g1
      refine (c_rEntries x.eq x.es x.gr hx.el (fun e he => hi.es _ (List.mem_map_of_mem he))).call (As := []) (C.hidL h1 g1) hx.e fun _ m2 w7 hk hm _ C => ⟨_, rfl, hk, Ctr.ret () ?_ trivial C⟩
      rw [wrapFr hi hx.el, fR101 c101, Mv.eg, if_neg (show ¬ x.er.kd = 10 from hk10)]
      show _ = Ending.returned (.bool (allE (x.es.map En.er) x.gr && decide (x.fr + ((x.es.map En.er).length : Int) ≤ 400)))
      rw [hlen]
    rw [if_neg (by simpa using c101)]
    by_cases c98 : c = 98
    · rw [if_pos (by simpa using c98)]
      intro w1 h1
      exact Ctr.ret () (by rw [fR98 c98]; rfl) trivial (C.hid0 h1)
    rw [if_neg (by simpa using c98)]
    by_cases c120 : c = 120
    · rw [if_pos (by simpa using c120)]
      intro w1 h1
      exact Ctr.ret () (by rw [fR120 c120]; rfl) trivial (C.hid0 h1)
    rw [if_neg (by simpa using c120)]
    by_cases c109 : c = 109
    · rw [if_pos (by simpa using c109)]
      intro w1 L2 h1 g1
      refine (c_rRight ⟨0, 1, x.mq, x.ms⟩ hi.ms (by show (0 : Int) ≤ 1; decide)).call (As := []) (C.hidL h1 g1) hx.mm fun _ m2 w7 hk hm _ C => ⟨_, rfl, hk, ?_⟩
      by_cases hv : Vw.ok ⟨0, 1, x.mq, x.ms⟩ = true
      · rw [if_pos (by rw [hv]; rfl)]
        refine (c_rEntries x.tq x.ts x.gr hx.tl (fun e he => hi.ts _ (List.mem_map_of_mem he))).call (As := []) C (hx.t.mono hm) fun _ m3 w8 hk hm3 _ C => ⟨_, rfl, hk, Ctr.ret () ?_ trivial C⟩
        have : vwOk 0 1 x.er.ms = true := hv
        rw [fR109 c109, this, Mv.eg, if_neg (show ¬ x.er.kd = 10 from hk10)]; rfl
      · rw [if_neg (by rw [Bool.eq_false_iff.2 hv]; decide)]
        refine Ctr.ret () ?_ trivial C
        have : vwOk 0 1 x.er.ms = false := Bool.eq_false_iff.2 hv
        rw [fR109 c109, this]; rfl
    rw [if_neg (by simpa using c109)]
    by_cases c115 : c = 115
    · rw [if_pos (by simpa using c115)]
      intro w1 L2 h1 g1
      exact (C.hidL h1 g1).gives (c_rRightP ⟨x.pn, x.pl⟩) fun w5 k5 C => ⟨_, rfl, k5, Ctr.ret () (by rw [fR115 c115]; rfl) trivial C⟩
    rw [if_neg (by simpa using c115)]
    intro w1 h1
    exact Ctr.ret () (by rw [fRo ⟨c103, c105, c102, c112, c114, c118, c110, c97, c107, c101, c98, c120, c109, c115⟩]) trivial (C.hid0 h1)
def Mg.setF (x o : Mg) (c : Int) : Mg :=
  if c = 103 then { o with gr := x.gr }
  else if c = 105 then { o with id := x.id }
  else if c = 102 then { o with fl := x.fl }
  else if c = 112 then { o with pq := x.pq, ps := x.ps }
  else if c = 114 then { o with rc := x.rc, rv := x.rv }
  else if c = 118 then { o with vg := x.vg, vn := x.vn, vq := x.vq, vm := x.vm }
  else if c = 99 then { o with co := x.co }
  else if c = 110 then { o with nn := x.nn }
  else if c = 97 then { o with fr := x.fr }
  else if c = 107 then { o with cm := x.cm }
  else if c = 101 then { o with eq := x.eq, es := x.es }
  else if c = 98 then { o with ba := x.ba }
  else if c = 104 then { o with has := x.has }
  else if c = 120 then { o with ac := x.ac }
  else if c = 109 then { o with mq := x.mq, ms := x.ms, tq := x.tq, ts := x.ts }
  else if c = 115 then { o with pn := x.pn, pl := x.pl }
  else o
theorem sF103 {x o : Mg} {c : Int} (h : c = 103) : x.setF o c = { o with gr := x.gr } := by rw [Mg.setF, if_pos h]
theorem sF105 {x o : Mg} {c : Int} (h : c = 105) : x.setF o c = { o with id := x.id } := by rw [Mg.setF, if_neg (by omega), if_pos h]
theorem sF102 {x o : Mg} {c : Int} (h : c = 102) : x.setF o c = { o with fl := x.fl } := by rw [Mg.setF, if_neg (by omega), if_neg (by omega), if_pos h]
theorem sF112 {x o : Mg} {c : Int} (h : c = 112) : x.setF o c = { o with pq := x.pq, ps := x.ps } := by rw [Mg.setF, if_neg (by omega), if_neg (by omega), if_neg (by omega), if_pos h]
theorem sF114 {x o : Mg} {c : Int} (h : c = 114) : x.setF o c = { o with rc := x.rc, rv := x.rv } := by rw [Mg.setF, if_neg (by omega), if_neg (by omega), if_neg (by omega), if_neg (by omega), if_pos h]
theorem sF118 {x o : Mg} {c : Int} (h : c = 118) : x.setF o c = { o with vg := x.vg, vn := x.vn, vq := x.vq, vm := x.vm } := by rw [Mg.setF, if_neg (by omega), if_neg (by omega), if_neg (by omega), if_neg (by omega), if_neg (by omega), if_pos h]
theorem sF99 {x o : Mg} {c : Int} (h : c = 99) : x.setF o c = { o with co := x.co } := by rw [Mg.setF, if_neg (by omega), if_neg (by omega), if_neg (by omega), if_neg (by omega), if_neg (by omega), if_neg (by omega), if_pos h]
theorem sF110 {x o : Mg} {c : Int} (h : c = 110) : x.setF o c = { o with nn := x.nn } := by rw [Mg.setF, if_neg (by omega), if_neg (by omega), if_neg (by omega), if_neg (by omega), if_neg (by omega), if_neg (by omega), if_neg (by omega), if_pos h]
theorem sF97 {x o : Mg} {c : Int} (h : c = 97) : x.setF o c = { o with fr := x.fr } := by rw [Mg.setF, if_neg (by omega), if_neg (by omega), if_neg (by omega), if_neg (by omega), if_neg (by omega), if_neg (by omega), if_neg (by omega), if_neg (by omega), if_pos h]
theorem sF107 {x o : Mg} {c : Int} (h : c = 107) : x.setF o c = { o with cm := x.cm } := by rw [Mg.setF, if_neg (by omega), if_neg (by omega), if_neg (by omega), if_neg (by omega), if_neg (by omega), if_neg (by omega), if_neg (by omega), if_neg (by omega), if_neg (by omega), if_pos h]
theorem sF101 {x o : Mg} {c : Int} (h : c = 101) : x.setF o c = { o with eq := x.eq, es := x.es } := by rw [Mg.setF, if_neg (by omega), if_neg (by omega), if_neg (by omega), if_neg (by omega), if_neg (by omega), if_neg (by omega), if_neg (by omega), if_neg (by omega), if_neg (by omega), if_neg (by omega), if_pos h]
theorem sF98 {x o : Mg} {c : Int} (h : c = 98) : x.setF o c = { o with ba := x.ba } := by rw [Mg.setF, if_neg (by omega), if_neg (by omega), if_neg (by omega), if_neg (by omega), if_neg (by omega), if_neg (by omega), if_neg (by omega), if_neg (by omega), if_neg (by omega), if_neg (by omega), if_neg (by omega), if_pos h]
theorem sF104 {x o : Mg} {c : Int} (h : c = 104) : x.setF o c = { o with has := x.has } := by rw [Mg.setF, if_neg (by omega), if_neg (by omega), if_neg (by omega), if_neg (by omega), if_neg (by omega), if_neg (by omega), if_neg (by omega), if_neg (by omega), if_neg (by omega), if_neg (by omega), if_neg (by omega), if_neg (by omega), if_pos h]
theorem sF120 {x o : Mg} {c : Int} (h : c = 120) : x.setF o c = { o with ac := x.ac } := by rw [Mg.setF, if_neg (by omega), if_neg (by omega), if_neg (by omega), if_neg (by omega), if_neg (by omega), if_neg (by omega), if_neg (by omega), if_neg (by omega), if_neg (by omega), if_neg (by omega), if_neg (by omega), if_neg (by omega), if_neg (by omega), if_pos h]
theorem sF109 {x o : Mg} {c : Int} (h : c = 109) : x.setF o c = { o with mq := x.mq, ms := x.ms, tq := x.tq, ts := x.ts } := by rw [Mg.setF, if_neg (by omega), if_neg (by omega), if_neg (by omega), if_neg (by omega), if_neg (by omega), if_neg (by omega), if_neg (by omega), if_neg (by omega), if_neg (by omega), if_neg (by omega), if_neg (by omega), if_neg (by omega), if_neg (by omega), if_neg (by omega), if_pos h]
theorem sF115 {x o : Mg} {c : Int} (h : c = 115) : x.setF o c = { o with pn := x.pn, pl := x.pl } := by rw [Mg.setF, if_neg (by omega), if_neg (by omega), if_neg (by omega), if_neg (by omega), if_neg (by omega), if_neg (by omega), if_neg (by omega), if_neg (by omega), if_neg (by omega), if_neg (by omega), if_neg (by omega), if_neg (by omega), if_neg (by omega), if_neg (by omega), if_neg (by omega), if_pos h]
theorem sFo {x o : Mg} {c : Int} (h : c ≠ 103 ∧ c ≠ 105 ∧ c ≠ 102 ∧ c ≠ 112 ∧ c ≠ 114 ∧ c ≠ 118 ∧ c ≠ 99 ∧ c ≠ 110 ∧ c ≠ 97 ∧ c ≠ 107 ∧ c ≠ 101 ∧ c ≠ 98 ∧ c ≠ 104 ∧ c ≠ 120 ∧ c ≠ 109 ∧ c ≠ 115) : x.setF o c = o := by rw [Mg.setF, if_neg (by omega), if_neg (by omega), if_neg (by omega), if_neg (by omega), if_neg (by omega), if_neg (by omega), if_neg (by omega), if_neg (by omega), if_neg (by omega), if_neg (by omega), if_neg (by omega), if_neg (by omega), if_neg (by omega), if_neg (by omega), if_neg (by omega), if_neg (by omega)]
def Mg.z (k : Int) : Mg := ⟨k, 0, 0, 0, 0, 0, 0, 0, 0, I.zero, (none, 0), [], 0, ByteArray.mk #[], 0, 0, (none, 0), [], 0, 0, false, (none, 0), [], (none, 0), [], (none, 0), []⟩
theorem c_rOnly (x : Mg) (l : List UInt8) (hl : l.length ≤ 100) : Ctr Try.prog 38 #[.agg x.row.toArray, .string (toBA l)] (fun m => MgM m x) [] (fun y : Mg => .agg y.row.toArray) (fun y m => y = l.foldl (fun o c => x.setF o (c.toNat : Int)) (Mg.z x.kd)) (fun _ => []) := by
  refine Ctr.mk fun w F m C hx => x_rOnly _ _ _ _ _ _ _ _ _ _ _ _ _ _ _ _ _ _ _ _ _ _ _ _ _ _ _ _ _ _ _ _ _ _ _ _ _ _ _ _ _ _ w _ fun w1 L2 h1 g1 => ?_
  have hsz : (toBA l).size = l.length := by show l.toArray.size = _; simp
  refine ⟨fun n z0 z1 z2 z3 z4 z5 z6 z7 z8 z9 z10 z11 z12 z13 z14 z15 z16 z17 z18 z19 z20 z21 z22 z23 z24 z25 z26 z27 z28 z29 z30 z31 z32 z33 z34 z35 z36 z37 z38 z39 z40 w' L' => ∃ (j : Nat) (o : Mg), n = j ∧ z0 = o.kd ∧ z1 = o.gr ∧ z2 = o.co ∧ z3 = o.nn ∧ z4 = o.fr ∧ z5 = o.cm ∧ z6 = o.fl ∧ z7 = o.ba ∧ z8 = o.ac ∧ z9 = o.id.n ∧ z10 = o.id.l ∧ z11 = o.id.s ∧ z12 = o.id.d ∧ z13 = o.id.g0 ∧ z14 = o.id.i0 ∧ z15 = o.id.g1 ∧ z16 = o.id.i1 ∧ z17 = o.id.g2 ∧ z18 = o.id.i2 ∧ z19 = o.pq.1 ∧ z20 = o.ps.length ∧ z21 = o.pq.2 ∧ z22 = o.rc ∧ z23 = o.rv ∧ z24 = o.vg ∧ z25 = o.vn ∧ z26 = o.vq.1 ∧ z27 = o.vm.length ∧ z28 = o.vq.2 ∧ z29 = o.pn ∧ z30 = o.pl ∧ z31 = o.has ∧ z32 = o.mq.1 ∧ z33 = o.ms.length ∧ z34 = o.mq.2 ∧ z35 = o.eq.1 ∧ z36 = o.es.length ∧ z37 = o.eq.2 ∧ z38 = o.tq.1 ∧ z39 = o.ts.length ∧ z40 = o.tq.2 ∧ j ≤ l.length ∧ o = (l.take j).foldl (fun o c => x.setF o (c.toNat : Int)) (Mg.z x.kd) ∧ Ctx F m w w' L' m [], fun n _ _ _ _ _ _ _ _ _ _ _ _ _ _ _ _ _ _ _ _ _ _ _ _ _ _ _ _ _ _ _ _ _ _ _ _ _ _ _ _ _ _ => ((l.length : Int) - n).toNat, ⟨0, Mg.z x.kd, rfl, rfl, rfl, rfl, rfl, rfl, rfl, rfl, rfl, rfl, rfl, rfl, rfl, rfl, rfl, rfl, rfl, rfl, rfl, rfl, rfl, rfl, rfl, rfl, rfl, rfl, rfl, rfl, rfl, rfl, rfl, rfl, rfl, rfl, rfl, rfl, rfl, rfl, rfl, rfl, rfl, rfl, Nat.zero_le _, rfl, C.hidL h1 g1⟩, ?_⟩
  clear C
  rintro n z0 z1 z2 z3 z4 z5 z6 z7 z8 z9 z10 z11 z12 z13 z14 z15 z16 z17 z18 z19 z20 z21 z22 z23 z24 z25 z26 z27 z28 z29 z30 z31 z32 z33 z34 z35 z36 z37 z38 z39 z40 w47 L48 _ ⟨j, o, rfl, rfl, rfl, rfl, rfl, rfl, rfl, rfl, rfl, rfl, rfl, rfl, rfl, rfl, rfl, rfl, rfl, rfl, rfl, rfl, rfl, rfl, rfl, rfl, rfl, rfl, rfl, rfl, rfl, rfl, rfl, rfl, rfl, rfl, rfl, rfl, rfl, rfl, rfl, rfl, rfl, rfl, hj, ho, C⟩
  rw [hsz]
  by_cases hjl : j < l.length
  rotate_left
  · rw [if_neg (by simpa using hjl)]
    have hj2 : j = l.length := by omega
    rw [hj2, List.take_length] at ho
    exact fun w9 h9 => Ctr.ret (m' := m) (L := []) o rfl ho (C.hid0 h9)
  rw [if_pos (by simpa using hjl)]
  refine ⟨by omega, l[j], by rw [Int.toNat_natCast]; show l.toArray[j]? = _; simp [hjl], ?_⟩
  have hfo : ∀ o', x.setF o ((l[j].toNat : Nat) : Int) = o' → o' = (l.take (j + 1)).foldl (fun o c => x.setF o (c.toNat : Int)) (Mg.z x.kd) := fun o' h => by
    rw [List.take_succ_eq_append_getElem hjl, List.foldl_append, ← ho]; exact h.symm
  generalize l[j] = ch at hfo
  have e1 : IntKind.wrap .i64 ((j : Int) + 1) = ((j + 1 : Nat) : Int) := by rw [w_i64 (by omega) (by omega)]; omega
  have e2 : Nat.le (((l.length : Int) - ((j + 1 : Nat) : Int)).toNat + 1) ((l.length : Int) - (j : Int)).toNat := Nat.le_of_eq (by omega)
  rw [e1]
  by_cases c103 : ((ch.toNat : Nat) : Int) = 103
  · rw [if_pos (by simpa using c103)]
    intro w81 L82 h81 g81
    exact ⟨rfl, rfl, ⟨j + 1, { o with gr := x.gr }, rfl, rfl, rfl, rfl, rfl, rfl, rfl, rfl, rfl, rfl, rfl, rfl, rfl, rfl, rfl, rfl, rfl, rfl, rfl, rfl, rfl, rfl, rfl, rfl, rfl, rfl, rfl, rfl, rfl, rfl, rfl, rfl, rfl, rfl, rfl, rfl, rfl, rfl, rfl, rfl, rfl, rfl, hjl, hfo _ (sF103 c103), C.hidL h81 g81⟩, e2⟩
  rw [if_neg (by simpa using c103)]
  by_cases c105 : ((ch.toNat : Nat) : Int) = 105
  · rw [if_pos (by simpa using c105)]
    intro w81 L82 h81 g81
    exact ⟨rfl, rfl, ⟨j + 1, { o with id := x.id }, rfl, rfl, rfl, rfl, rfl, rfl, rfl, rfl, rfl, rfl, rfl, rfl, rfl, rfl, rfl, rfl, rfl, rfl, rfl, rfl, rfl, rfl, rfl, rfl, rfl, rfl, rfl, rfl, rfl, rfl, rfl, rfl, rfl, rfl, rfl, rfl, rfl, rfl, rfl, rfl, rfl, rfl, hjl, hfo _ (sF105 c105), C.hidL h81 g81⟩, e2⟩
  rw [if_neg (by simpa using c105)]
  by_cases c102 : ((ch.toNat : Nat) : Int) = 102
  · rw [if_pos (by simpa using c102)]
    intro w81 L82 h81 g81
    exact ⟨rfl, rfl, ⟨j + 1, { o with fl := x.fl }, rfl, rfl, rfl, rfl, rfl, rfl, rfl, rfl, rfl, rfl, rfl, rfl, rfl, rfl, rfl, rfl, rfl, rfl, rfl, rfl, rfl, rfl, rfl, rfl, rfl, rfl, rfl, rfl, rfl, rfl, rfl, rfl, rfl, rfl, rfl, rfl, rfl, rfl, rfl, rfl, rfl, rfl, hjl, hfo _ (sF102 c102), C.hidL h81 g81⟩, e2⟩
  rw [if_neg (by simpa using c102)]
  by_cases c112 : ((ch.toNat : Nat) : Int) = 112
  · rw [if_pos (by simpa using c112)]
    intro w81 L82 h81 g81
    exact ⟨rfl, rfl, ⟨j + 1, { o with pq := x.pq, ps := x.ps }, rfl, rfl, rfl, rfl, rfl, rfl, rfl, rfl, rfl, rfl, rfl, rfl, rfl, rfl, rfl, rfl, rfl, rfl, rfl, rfl, rfl, rfl, rfl, rfl, rfl, rfl, rfl, rfl, rfl, rfl, rfl, rfl, rfl, rfl, rfl, rfl, rfl, rfl, rfl, rfl, rfl, rfl, hjl, hfo _ (sF112 c112), C.hidL h81 g81⟩, e2⟩
  rw [if_neg (by simpa using c112)]
  by_cases c114 : ((ch.toNat : Nat) : Int) = 114
  · rw [if_pos (by simpa using c114)]
    intro w81 L82 h81 g81
    exact ⟨rfl, rfl, ⟨j + 1, { o with rc := x.rc, rv := x.rv }, rfl, rfl, rfl, rfl, rfl, rfl, rfl, rfl, rfl, rfl, rfl, rfl, rfl, rfl, rfl, rfl, rfl, rfl, rfl, rfl, rfl, rfl, rfl, rfl, rfl, rfl, rfl, rfl, rfl, rfl, rfl, rfl, rfl, rfl, rfl, rfl, rfl, rfl, rfl, rfl, rfl, rfl, hjl, hfo _ (sF114 c114), C.hidL h81 g81⟩, e2⟩
  rw [if_neg (by simpa using c114)]
  by_cases c118 : ((ch.toNat : Nat) : Int) = 118
  · rw [if_pos (by simpa using c118)]
    intro w81 L82 h81 g81
    exact ⟨rfl, rfl, ⟨j + 1, { o with vg := x.vg, vn := x.vn, vq := x.vq, vm := x.vm }, rfl, rfl, rfl, rfl, rfl, rfl, rfl, rfl, rfl, rfl, rfl, rfl, rfl, rfl, rfl, rfl, rfl, rfl, rfl, rfl, rfl, rfl, rfl, rfl, rfl, rfl, rfl, rfl, rfl, rfl, rfl, rfl, rfl, rfl, rfl, rfl, rfl, rfl, rfl, rfl, rfl, rfl, hjl, hfo _ (sF118 c118), C.hidL h81 g81⟩, e2⟩
  rw [if_neg (by simpa using c118)]
  by_cases c99 : ((ch.toNat : Nat) : Int) = 99
  · rw [if_pos (by simpa using c99)]
    intro w81 L82 h81 g81
    exact ⟨rfl, rfl, ⟨j + 1, { o with co := x.co }, rfl, rfl, rfl, rfl, rfl, rfl, rfl, rfl, rfl, rfl, rfl, rfl, rfl, rfl, rfl, rfl, rfl, rfl, rfl, rfl, rfl, rfl, rfl, rfl, rfl, rfl, rfl, rfl, rfl, rfl, rfl, rfl, rfl, rfl, rfl, rfl, rfl, rfl, rfl, rfl, rfl, rfl, hjl, hfo _ (sF99 c99), C.hidL h81 g81⟩, e2⟩
  rw [if_neg (by simpa using c99)]
  by_cases c110 : ((ch.toNat : Nat) : Int) = 110
  · rw [if_pos (by simpa using c110)]
    intro w81 L82 h81 g81
    exact ⟨rfl, rfl, ⟨j + 1, { o with nn := x.nn }, rfl, rfl, rfl, rfl, rfl, rfl, rfl, rfl, rfl, rfl, rfl, rfl, rfl, rfl, rfl, rfl, rfl, rfl, rfl, rfl, rfl, rfl, rfl, rfl, rfl, rfl, rfl, rfl, rfl, rfl, rfl, rfl, rfl, rfl, rfl, rfl, rfl, rfl, rfl, rfl, rfl, rfl, hjl, hfo _ (sF110 c110), C.hidL h81 g81⟩, e2⟩
  rw [if_neg (by simpa using c110)]
  by_cases c97 : ((ch.toNat : Nat) : Int) = 97
  · rw [if_pos (by simpa using c97)]
    intro w81 L82 h81 g81
    exact ⟨rfl, rfl, ⟨j + 1, { o with fr := x.fr }, rfl, rfl, rfl, rfl, rfl, rfl, rfl, rfl, rfl, rfl, rfl, rfl, rfl, rfl, rfl, rfl, rfl, rfl, rfl, rfl, rfl, rfl, rfl, rfl, rfl, rfl, rfl, rfl, rfl, rfl, rfl, rfl, rfl, rfl, rfl, rfl, rfl, rfl, rfl, rfl, rfl, rfl, hjl, hfo _ (sF97 c97), C.hidL h81 g81⟩, e2⟩
  rw [if_neg (by simpa using c97)]
  by_cases c107 : ((ch.toNat : Nat) : Int) = 107
  · rw [if_pos (by simpa using c107)]
    intro w81 L82 h81 g81
    exact ⟨rfl, rfl, ⟨j + 1, { o with cm := x.cm }, rfl, rfl, rfl, rfl, rfl, rfl, rfl, rfl, rfl, rfl, rfl, rfl, rfl, rfl, rfl, rfl, rfl, rfl, rfl, rfl, rfl, rfl, rfl, rfl, rfl, rfl, rfl, rfl, rfl, rfl, rfl, rfl, rfl, rfl, rfl, rfl, rfl, rfl, rfl, rfl, rfl, rfl, hjl, hfo _ (sF107 c107), C.hidL h81 g81⟩, e2⟩
  rw [if_neg (by simpa using c107)]
  by_cases c101 : ((ch.toNat : Nat) : Int) = 101
  · rw [if_pos (by simpa using c101)]
    intro w81 L82 h81 g81
    exact ⟨rfl, rfl, ⟨j + 1, { o with eq := x.eq, es := x.es }, rfl, rfl, rfl, rfl, rfl, rfl, rfl, rfl, rfl, rfl, rfl, rfl, rfl, rfl, rfl, rfl, rfl, rfl, rfl, rfl, rfl, rfl, rfl, rfl, rfl, rfl, rfl, rfl, rfl, rfl, rfl, rfl, rfl, rfl, rfl, rfl, rfl, rfl, rfl, rfl, rfl, rfl, hjl, hfo _ (sF101 c101), C.hidL h81 g81⟩, e2⟩
  rw [if_neg (by simpa using c101)]
  by_cases c98 : ((ch.toNat : Nat) : Int) = 98
  · rw [if_pos (by simpa using c98)]
    intro w81 L82 h81 g81
    exact ⟨rfl, rfl, ⟨j + 1, { o with ba := x.ba }, rfl, rfl, rfl, rfl, rfl, rfl, rfl, rfl, rfl, rfl, rfl, rfl, rfl, rfl, rfl, rfl, rfl, rfl, rfl, rfl, rfl, rfl, rfl, rfl, rfl, rfl, rfl, rfl, rfl, rfl, rfl, rfl, rfl, rfl, rfl, rfl, rfl, rfl, rfl, rfl, rfl, rfl, hjl, hfo _ (sF98 c98), C.hidL h81 g81⟩, e2⟩
  rw [if_neg (by simpa using c98)]
  by_cases c104 : ((ch.toNat : Nat) : Int) = 104
  · rw [if_pos (by simpa using c104)]
    intro w81 L82 h81 g81
    exact ⟨rfl, rfl, ⟨j + 1, { o with has := x.has }, rfl, rfl, rfl, rfl, rfl, rfl, rfl, rfl, rfl, rfl, rfl, rfl, rfl, rfl, rfl, rfl, rfl, rfl, rfl, rfl, rfl, rfl, rfl, rfl, rfl, rfl, rfl, rfl, rfl, rfl, rfl, rfl, rfl, rfl, rfl, rfl, rfl, rfl, rfl, rfl, rfl, rfl, hjl, hfo _ (sF104 c104), C.hidL h81 g81⟩, e2⟩
  rw [if_neg (by simpa using c104)]
  by_cases c120 : ((ch.toNat : Nat) : Int) = 120
  · rw [if_pos (by simpa using c120)]
    intro w81 L82 h81 g81
    exact ⟨rfl, rfl, ⟨j + 1, { o with ac := x.ac }, rfl, rfl, rfl, rfl, rfl, rfl, rfl, rfl, rfl, rfl, rfl, rfl, rfl, rfl, rfl, rfl, rfl, rfl, rfl, rfl, rfl, rfl, rfl, rfl, rfl, rfl, rfl, rfl, rfl, rfl, rfl, rfl, rfl, rfl, rfl, rfl, rfl, rfl, rfl, rfl, rfl, rfl, hjl, hfo _ (sF120 c120), C.hidL h81 g81⟩, e2⟩
  rw [if_neg (by simpa using c120)]
  by_cases c109 : ((ch.toNat : Nat) : Int) = 109
  · rw [if_pos (by simpa using c109)]
    intro w81 L82 h81 g81
    exact ⟨rfl, rfl, ⟨j + 1, { o with mq := x.mq, ms := x.ms, tq := x.tq, ts := x.ts }, rfl, rfl, rfl, rfl, rfl, rfl, rfl, rfl, rfl, rfl, rfl, rfl, rfl, rfl, rfl, rfl, rfl, rfl, rfl, rfl, rfl, rfl, rfl, rfl, rfl, rfl, rfl, rfl, rfl, rfl, rfl, rfl, rfl, rfl, rfl, rfl, rfl, rfl, rfl, rfl, rfl, rfl, hjl, hfo _ (sF109 c109), C.hidL h81 g81⟩, e2⟩
  rw [if_neg (by simpa using c109)]
  by_cases c115 : ((ch.toNat : Nat) : Int) = 115
  · rw [if_pos (by simpa using c115)]
    intro w81 L82 h81 g81
    exact ⟨rfl, rfl, ⟨j + 1, { o with pn := x.pn, pl := x.pl }, rfl, rfl, rfl, rfl, rfl, rfl, rfl, rfl, rfl, rfl, rfl, rfl, rfl, rfl, rfl, rfl, rfl, rfl, rfl, rfl, rfl, rfl, rfl, rfl, rfl, rfl, rfl, rfl, rfl, rfl, rfl, rfl, rfl, rfl, rfl, rfl, rfl, rfl, rfl, rfl, rfl, rfl, hjl, hfo _ (sF115 c115), C.hidL h81 g81⟩, e2⟩
  rw [if_neg (by simpa using c115)]
  exact ⟨rfl, rfl, ⟨j + 1, o, rfl, rfl, rfl, rfl, rfl, rfl, rfl, rfl, rfl, rfl, rfl, rfl, rfl, rfl, rfl, rfl, rfl, rfl, rfl, rfl, rfl, rfl, rfl, rfl, rfl, rfl, rfl, rfl, rfl, rfl, rfl, rfl, rfl, rfl, rfl, rfl, rfl, rfl, rfl, rfl, rfl, rfl, hjl, hfo _ (sFo ⟨c103, c105, c102, c112, c114, c118, c99, c110, c97, c107, c101, c98, c104, c120, c109, c115⟩), C⟩, e2⟩
end Go.Proofs
namespace Go.Proofs
open Go X RowKit
theorem only_fold {m : Mem} (x : Mg) (hx : MgM m x) (h : 0 ≤ x.kd ∧ x.kd ≤ 13) : MgM m ((letL x.kd x.has).foldl (fun o c => x.setF o (c.toNat : Int)) (Mg.z x.kd)) ∧ ((letL x.kd x.has).foldl (fun o c => x.setF o (c.toNat : Int)) (Mg.z x.kd)).er = x.er.onlyP := by
  obtain hk | hk | hk | hk | hk | hk | hk | hk | hk | hk | hk | hk | hk | hk : x.kd = 0 ∨ x.kd = 1 ∨ x.kd = 2 ∨ x.kd = 3 ∨ x.kd = 4 ∨ x.kd = 5 ∨ x.kd = 6 ∨ x.kd = 7 ∨ x.kd = 8 ∨ x.kd = 9 ∨ x.kd = 10 ∨ x.kd = 11 ∨ x.kd = 12 ∨ x.kd = 13 := by omega
  all_goals (obtain ⟨kd, gr, co, nn, fr, cm, fl, ba, ac, id, pq, ps, rc, rv, vg, vn, vq, vm, pn, pl, has, mq, ms, eq, es, tq, ts⟩ := x)
  all_goals (replace hk : kd = _ := hk)
  all_goals (subst hk)
  · have e : List.foldl (fun o c => Mg.setF ⟨0, gr, co, nn, fr, cm, fl, ba, ac, id, pq, ps, rc, rv, vg, vn, vq, vm, pn, pl, has, mq, ms, eq, es, tq, ts⟩ o ((c.toNat : Nat) : Int)) (Mg.z 0) (letL 0 has) = Mg.o0 ⟨0, gr, co, nn, fr, cm, fl, ba, ac, id, pq, ps, rc, rv, vg, vn, vq, vm, pn, pl, has, mq, ms, eq, es, tq, ts⟩ := by
      rw [letL, if_neg (by simp), fldS0 rfl]; rfl
    exact ⟨e.symm ▸ oM0 hx, (congrArg Mg.er e).trans (by rw [oP0 rfl]; rfl)⟩
  · have e : List.foldl (fun o c => Mg.setF ⟨1, gr, co, nn, fr, cm, fl, ba, ac, id, pq, ps, rc, rv, vg, vn, vq, vm, pn, pl, has, mq, ms, eq, es, tq, ts⟩ o ((c.toNat : Nat) : Int)) (Mg.z 1) (letL 1 has) = Mg.o1 ⟨1, gr, co, nn, fr, cm, fl, ba, ac, id, pq, ps, rc, rv, vg, vn, vq, vm, pn, pl, has, mq, ms, eq, es, tq, ts⟩ := by
      rw [letL, if_neg (by simp), fldS1 rfl]; rfl
    exact ⟨e.symm ▸ oM1 hx, (congrArg Mg.er e).trans (by rw [oP1 rfl]; rfl)⟩
  · have e : List.foldl (fun o c => Mg.setF ⟨2, gr, co, nn, fr, cm, fl, ba, ac, id, pq, ps, rc, rv, vg, vn, vq, vm, pn, pl, has, mq, ms, eq, es, tq, ts⟩ o ((c.toNat : Nat) : Int)) (Mg.z 2) (letL 2 has) = Mg.o2 ⟨2, gr, co, nn, fr, cm, fl, ba, ac, id, pq, ps, rc, rv, vg, vn, vq, vm, pn, pl, has, mq, ms, eq, es, tq, ts⟩ := by
      rw [letL, if_neg (by simp), fldS2 rfl]; rfl
    exact ⟨e.symm ▸ oM2 hx, (congrArg Mg.er e).trans (by rw [oP2 rfl]; rfl)⟩
  · have e : List.foldl (fun o c => Mg.setF ⟨3, gr, co, nn, fr, cm, fl, ba, ac, id, pq, ps, rc, rv, vg, vn, vq, vm, pn, pl, has, mq, ms, eq, es, tq, ts⟩ o ((c.toNat : Nat) : Int)) (Mg.z 3) (letL 3 has) = Mg.o3 ⟨3, gr, co, nn, fr, cm, fl, ba, ac, id, pq, ps, rc, rv, vg, vn, vq, vm, pn, pl, has, mq, ms, eq, es, tq, ts⟩ := by
      rw [letL, if_neg (by simp), fldS3 rfl]; rfl
    exact ⟨e.symm ▸ oM3 hx, (congrArg Mg.er e).trans (by rw [oP3 rfl]; rfl)⟩
  · have e : List.foldl (fun o c => Mg.setF ⟨4, gr, co, nn, fr, cm, fl, ba, ac, id, pq, ps, rc, rv, vg, vn, vq, vm, pn, pl, has, mq, ms, eq, es, tq, ts⟩ o ((c.toNat : Nat) : Int)) (Mg.z 4) (letL 4 has) = Mg.o4 ⟨4, gr, co, nn, fr, cm, fl, ba, ac, id, pq, ps, rc, rv, vg, vn, vq, vm, pn, pl, has, mq, ms, eq, es, tq, ts⟩ := by
      rw [letL, if_neg (by simp), fldS4 rfl]; rfl
    exact ⟨e.symm ▸ oM4 hx, (congrArg Mg.er e).trans (by rw [oP4 rfl]; rfl)⟩
  · have e : List.foldl (fun o c => Mg.setF ⟨5, gr, co, nn, fr, cm, fl, ba, ac, id, pq, ps, rc, rv, vg, vn, vq, vm, pn, pl, has, mq, ms, eq, es, tq, ts⟩ o ((c.toNat : Nat) : Int)) (Mg.z 5) (letL 5 has) = Mg.o5 ⟨5, gr, co, nn, fr, cm, fl, ba, ac, id, pq, ps, rc, rv, vg, vn, vq, vm, pn, pl, has, mq, ms, eq, es, tq, ts⟩ := by
      rw [letL, if_neg (by simp), fldS5 rfl]; rfl
    exact ⟨e.symm ▸ oM5 hx, (congrArg Mg.er e).trans (by rw [oP5 rfl]; rfl)⟩
  · have e : List.foldl (fun o c => Mg.setF ⟨6, gr, co, nn, fr, cm, fl, ba, ac, id, pq, ps, rc, rv, vg, vn, vq, vm, pn, pl, has, mq, ms, eq, es, tq, ts⟩ o ((c.toNat : Nat) : Int)) (Mg.z 6) (letL 6 has) = Mg.o5 ⟨6, gr, co, nn, fr, cm, fl, ba, ac, id, pq, ps, rc, rv, vg, vn, vq, vm, pn, pl, has, mq, ms, eq, es, tq, ts⟩ := by
      rw [letL, if_neg (by simp), fldS6 rfl]; rfl
    exact ⟨e.symm ▸ oM5 hx, (congrArg Mg.er e).trans (by rw [oP6 rfl]; rfl)⟩
  · have e : List.foldl (fun o c => Mg.setF ⟨7, gr, co, nn, fr, cm, fl, ba, ac, id, pq, ps, rc, rv, vg, vn, vq, vm, pn, pl, has, mq, ms, eq, es, tq, ts⟩ o ((c.toNat : Nat) : Int)) (Mg.z 7) (letL 7 has) = Mg.o5 ⟨7, gr, co, nn, fr, cm, fl, ba, ac, id, pq, ps, rc, rv, vg, vn, vq, vm, pn, pl, has, mq, ms, eq, es, tq, ts⟩ := by
      rw [letL, if_neg (by simp), fldS7 rfl]; rfl
    exact ⟨e.symm ▸ oM5 hx, (congrArg Mg.er e).trans (by rw [oP7 rfl]; rfl)⟩
  · cases has with
    | true =>
      have e : List.foldl (fun o c => Mg.setF ⟨8, gr, co, nn, fr, cm, fl, ba, ac, id, pq, ps, rc, rv, vg, vn, vq, vm, pn, pl, true, mq, ms, eq, es, tq, ts⟩ o ((c.toNat : Nat) : Int)) (Mg.z 8) (letL 8 true) = Mg.o8t ⟨8, gr, co, nn, fr, cm, fl, ba, ac, id, pq, ps, rc, rv, vg, vn, vq, vm, pn, pl, true, mq, ms, eq, es, tq, ts⟩ := by
        rw [letL, if_pos (by simp), fldS8 rfl]; rfl
      exact ⟨e.symm ▸ oM8t hx, (congrArg Mg.er e).trans (by rw [oP8 rfl]; rfl)⟩
    | false =>
      have e : List.foldl (fun o c => Mg.setF ⟨8, gr, co, nn, fr, cm, fl, ba, ac, id, pq, ps, rc, rv, vg, vn, vq, vm, pn, pl, false, mq, ms, eq, es, tq, ts⟩ o ((c.toNat : Nat) : Int)) (Mg.z 8) (letL 8 false) = Mg.o8f ⟨8, gr, co, nn, fr, cm, fl, ba, ac, id, pq, ps, rc, rv, vg, vn, vq, vm, pn, pl, false, mq, ms, eq, es, tq, ts⟩ := by
        rw [letL, if_neg (by simp), fldS8 rfl]; rfl
      exact ⟨e.symm ▸ oM8f hx, (congrArg Mg.er e).trans (by rw [oP8 rfl]; rfl)⟩
  · have e : List.foldl (fun o c => Mg.setF ⟨9, gr, co, nn, fr, cm, fl, ba, ac, id, pq, ps, rc, rv, vg, vn, vq, vm, pn, pl, has, mq, ms, eq, es, tq, ts⟩ o ((c.toNat : Nat) : Int)) (Mg.z 9) (letL 9 has) = Mg.o9 ⟨9, gr, co, nn, fr, cm, fl, ba, ac, id, pq, ps, rc, rv, vg, vn, vq, vm, pn, pl, has, mq, ms, eq, es, tq, ts⟩ := by
      rw [letL, if_neg (by simp), fldS9 rfl]; rfl
    exact ⟨e.symm ▸ oM9 hx, (congrArg Mg.er e).trans (by rw [oP9 rfl]; rfl)⟩
  · have e : List.foldl (fun o c => Mg.setF ⟨10, gr, co, nn, fr, cm, fl, ba, ac, id, pq, ps, rc, rv, vg, vn, vq, vm, pn, pl, has, mq, ms, eq, es, tq, ts⟩ o ((c.toNat : Nat) : Int)) (Mg.z 10) (letL 10 has) = Mg.o10 ⟨10, gr, co, nn, fr, cm, fl, ba, ac, id, pq, ps, rc, rv, vg, vn, vq, vm, pn, pl, has, mq, ms, eq, es, tq, ts⟩ := by
      rw [letL, if_neg (by simp), fldS10 rfl]; rfl
    exact ⟨e.symm ▸ oM10 hx, (congrArg Mg.er e).trans (by rw [oP10 rfl]; rfl)⟩
  · have e : List.foldl (fun o c => Mg.setF ⟨11, gr, co, nn, fr, cm, fl, ba, ac, id, pq, ps, rc, rv, vg, vn, vq, vm, pn, pl, has, mq, ms, eq, es, tq, ts⟩ o ((c.toNat : Nat) : Int)) (Mg.z 11) (letL 11 has) = Mg.o11 ⟨11, gr, co, nn, fr, cm, fl, ba, ac, id, pq, ps, rc, rv, vg, vn, vq, vm, pn, pl, has, mq, ms, eq, es, tq, ts⟩ := by
      rw [letL, if_neg (by simp), fldS11 rfl]; rfl
    exact ⟨e.symm ▸ oM11 hx, (congrArg Mg.er e).trans (by rw [oP11 rfl]; rfl)⟩
  · have e : List.foldl (fun o c => Mg.setF ⟨12, gr, co, nn, fr, cm, fl, ba, ac, id, pq, ps, rc, rv, vg, vn, vq, vm, pn, pl, has, mq, ms, eq, es, tq, ts⟩ o ((c.toNat : Nat) : Int)) (Mg.z 12) (letL 12 has) = Mg.o11 ⟨12, gr, co, nn, fr, cm, fl, ba, ac, id, pq, ps, rc, rv, vg, vn, vq, vm, pn, pl, has, mq, ms, eq, es, tq, ts⟩ := by
      rw [letL, if_neg (by simp), fldS12 rfl]; rfl
    exact ⟨e.symm ▸ oM11 hx, (congrArg Mg.er e).trans (by rw [oP12 rfl]; rfl)⟩
  · have e : List.foldl (fun o c => Mg.setF ⟨13, gr, co, nn, fr, cm, fl, ba, ac, id, pq, ps, rc, rv, vg, vn, vq, vm, pn, pl, has, mq, ms, eq, es, tq, ts⟩ o ((c.toNat : Nat) : Int)) (Mg.z 13) (letL 13 has) = Mg.o11 ⟨13, gr, co, nn, fr, cm, fl, ba, ac, id, pq, ps, rc, rv, vg, vn, vq, vm, pn, pl, has, mq, ms, eq, es, tq, ts⟩ := by
      rw [letL, if_neg (by simp), fldS13 rfl]; rfl
    exact ⟨e.symm ▸ oM11 hx, (congrArg Mg.er e).trans (by rw [oP13 rfl]; rfl)⟩
theorem letL_len (k : Int) (b : Bool) : (letL k b).length ≤ 100 := by
  have := fldS_len k
  unfold letL
  split
  · rw [List.length_append]; simp; omega
  · omega
def Mv.rightR (x : Mv) : Bool := decide (x.kd ≤ 13) && (letL x.kd x.has).all (fun c => x.fldR ((c.toNat : Nat) : Int)) && decide (x = x.onlyP)
theorem c_r7RightR (x : Mg) (hi : MvIn x.er) : Ctr Try.prog 11 #[.agg x.row.toArray] (fun m => MgM m x) [] (fun _ : Unit => .bool x.er.rightR) (fun _ _ => True) (fun _ => []) := by
  refine Ctr.mk fun w F m C hx => x_r7Right _ _ _ _ _ _ _ _ _ _ _ _ _ _ _ _ _ _ _ _ _ _ _ _ _ _ _ _ _ _ _ _ _ _ _ _ _ _ _ _ _ w _ ?_
  have hk0 : 0 ≤ x.kd ∧ x.kd < 256 := hi.kd
  by_cases h13 : x.kd > 13
  · rw [if_pos (by simpa using h13)]
    intro w67 h67
    refine Ctr.ret () ?_ trivial (C.hid0 h67)
    have : decide (x.er.kd ≤ 13) = false := decide_eq_false (show ¬ x.kd ≤ 13 by omega)
    rw [Mv.rightR, this]; rfl
  rw [if_neg (by simpa using h13)]
  have h13' : decide (x.er.kd ≤ 13) = true := decide_eq_true (show x.kd ≤ 13 by omega)
  intro w1 L2 h1 g1
  refine (C.hidL h1 g1).gives (c_rLetters x hk0) fun w4 k4 C => ⟨_, rfl, k4, ?_⟩
  have hR : x.er.rightR = ((letL x.kd x.has).all (fun c => x.er.fldR ((c.toNat : Nat) : Int)) && decide (x.er = x.er.onlyP)) := by rw [Mv.rightR, h13']; rfl
  have hof := fun m (hx : MgM m x) => only_fold x hx ⟨hk0.1, by omega⟩
  have hll := letL_len x.kd x.has
  rw [hR]
  generalize letL x.kd x.has = l at C hof hll
  have hsz : (toBA l).size = l.length := by show l.toArray.size = _; simp
  refine ⟨fun n w' L' => ∃ (j : Nat) (m' : Mem), n = j ∧ j ≤ l.length ∧ m.le m' ∧ (l.take j).all (fun c => x.er.fldR ((c.toNat : Nat) : Int)) = true ∧ Ctx F m w w' L' m' [], fun n _ => ((l.length : Int) - n).toNat, ⟨0, m, rfl, Nat.zero_le _, Mem.le_refl _, rfl, C⟩, ?_⟩
  clear C
  rintro n w9 L10 _ ⟨j, m', rfl, hj, hm, hjt, C⟩
  rw [hsz]
  by_cases hjl : j < l.length
  · rw [if_pos (by simpa using hjl)]
    have ht : (l.take (j + 1)).all (fun c => x.er.fldR ((c.toNat : Nat) : Int)) = ((l.take j).all (fun c => x.er.fldR ((c.toNat : Nat) : Int)) && x.er.fldR ((l[j].toNat : Nat) : Int)) := by rw [List.take_succ_eq_append_getElem hjl, List.all_append]; simp
    have hin : l[j] ∈ l := List.getElem_mem hjl
    refine ⟨[], facts_nil _ _, by omega, l[j], by rw [Int.toNat_natCast]; show l.toArray[j]? = _; simp [hjl], fun w62 L63 h62 g62 => ?_⟩
    generalize l[j] = ch at ht hin
    refine (c_rField x ((ch.toNat : Nat) : Int) hi).call (As := []) (C.hidL h62 g62) (hx.mono hm) fun _ m2 w65 hk hm2 _ C => ⟨_, rfl, hk, ?_⟩
    by_cases hf : x.er.fldR ((ch.toNat : Nat) : Int) = true
    · rw [if_neg (by rw [hf]; decide)]
      have e1 : IntKind.wrap .i64 ((j : Int) + 1) = ((j + 1 : Nat) : Int) := by rw [w_i64 (by omega) (by omega)]; omega
      rw [e1]
      exact ⟨rfl, ⟨j + 1, m2, rfl, hjl, hm.le_trans hm2, by rw [ht, hjt, hf]; rfl, C⟩, Nat.le_of_eq (by show ((l.length : Int) - ((j + 1 : Nat) : Int)).toNat + 1 = ((l.length : Int) - (j : Int)).toNat; omega)⟩
    · rw [if_pos (by rw [Bool.eq_false_iff.2 hf]; decide)]
      refine Ctr.ret () ?_ trivial C
      have : l.all (fun c => x.er.fldR ((c.toNat : Nat) : Int)) = false := by rw [Bool.eq_false_iff]; intro h; exact hf (List.all_eq_true.1 h _ hin)
      rw [this]; rfl
  · rw [if_neg (by simpa using hjl)]
    have hj2 : j = l.length := by omega
    rw [hj2, List.take_length] at hjt
    refine ⟨[], facts_nil _ _, fun w12 L13 h12 g12 => ?_⟩
    refine (c_rOnly x l hll).call (As := []) (C.hidL h12 g12) (hx.mono hm) fun y m2 w15 hk hm2 hy C => ⟨_, _, _, _, _, _, _, _, _, _, _, _, _, _, _, _, _, _, _, _, _, _, _, _, _, _, _, _, _, _, _, _, _, _, _, _, _, _, _, _, _, rfl, hk, facts_nil _ _, ?_⟩
    obtain ⟨hy1, hy2⟩ := hof m2 ((hx.mono hm).mono hm2)
    rw [← hy] at hy1 hy2
    refine (c_r7Same x y).call (As := []) C ⟨(hx.mono hm).mono hm2, hy1⟩ fun _ m3 w58 hk hm3 _ C => ⟨_, rfl, hk, facts_nil _ _, Ctr.ret () ?_ trivial C⟩
    rw [hjt, hy2]; rfl
/-! ### the two agree -/
theorem allE_and (l : List Ev) (g : Int) : (allE l g && decide ((l.length : Int) ≤ 400)) = allE l g := by
  rw [allE]
  by_cases h : l.length ≤ 400
  · have : ((l.length : Nat) : Int) ≤ 400 := by omega
    rw [decide_eq_true this, Bool.and_true]
  · rw [decide_eq_false h]; rfl
theorem ge1 (n : Int) : decide (n ≥ 1) = decide (n > 0) := by
  rw [Bool.eq_iff_iff]; simp only [decide_eq_true_eq]; omega
theorem rightR_eq (x : Mv) (hk0 : 0 ≤ x.kd) : x.rightR = x.right := by
  by_cases hE : x = x.onlyP
  rotate_left
  · rw [Mv.rightR, Mv.right, decide_eq_false hE, Bool.and_false, Bool.and_false]
  rw [Mv.rightR, Mv.right, decide_eq_true hE, Bool.and_true, Bool.and_true]
  by_cases h13 : x.kd ≤ 13
  rotate_left
  · rw [decide_eq_false h13, fPo (by omega), Bool.and_false]; rfl
  rw [decide_eq_true h13, Bool.true_and]
  obtain hk | hk | hk | hk | hk | hk | hk | hk | hk | hk | hk | hk | hk | hk : x.kd = 0 ∨ x.kd = 1 ∨ x.kd = 2 ∨ x.kd = 3 ∨ x.kd = 4 ∨ x.kd = 5 ∨ x.kd = 6 ∨ x.kd = 7 ∨ x.kd = 8 ∨ x.kd = 9 ∨ x.kd = 10 ∨ x.kd = 11 ∨ x.kd = 12 ∨ x.kd = 13 := by omega
  · rw [hk, letL, if_neg (fun h => by cases h.1), fldS0 rfl]
    simp only [List.all_cons, List.all_nil, List.cons_append, List.nil_append]
    rw [fR103 (show (((103 : UInt8).toNat : Nat) : Int) = 103 from rfl), fR105 (show (((105 : UInt8).toNat : Nat) : Int) = 105 from rfl), fR102 (show (((102 : UInt8).toNat : Nat) : Int) = 102 from rfl), fR112 (show (((112 : UInt8).toNat : Nat) : Int) = 112 from rfl), fP0 hk]
    rw [Mv.askM, Mv.prt]; simp only [Bool.and_assoc, Bool.and_true]; rfl
  · rw [hk, letL, if_neg (fun h => by cases h.1), fldS1 rfl]
    simp only [List.all_cons, List.all_nil, List.cons_append, List.nil_append]
    rw [fR105 (show (((105 : UInt8).toNat : Nat) : Int) = 105 from rfl), fR114 (show (((114 : UInt8).toNat : Nat) : Int) = 114 from rfl), fR118 (show (((118 : UInt8).toNat : Nat) : Int) = 118 from rfl), fP1 hk]
    have z_gr : x.gr = 0 := by have h := congrArg Mv.gr hE; rw [oP1 hk] at h; exact h
    rw [decide_eq_true (show x.gr < 4 by omega)]; simp only [Bool.and_assoc, Bool.and_true, Bool.true_and]
  · rw [hk, letL, if_neg (fun h => by cases h.1), fldS2 rfl]
    simp only [List.all_cons, List.all_nil, List.cons_append, List.nil_append]
    rw [fR105 (show (((105 : UInt8).toNat : Nat) : Int) = 105 from rfl), fRo (x := x) (c := (((99 : UInt8).toNat : Nat) : Int)) (by decide), fP2 hk]
    have z_gr : x.gr = 0 := by have h := congrArg Mv.gr hE; rw [oP2 hk] at h; exact h
    rw [decide_eq_true (show x.gr < 4 by omega)]; simp only [Bool.and_assoc, Bool.and_true, Bool.true_and]
  · rw [hk, letL, if_neg (fun h => by cases h.1), fldS3 rfl]
    simp only [List.all_cons, List.all_nil, List.cons_append, List.nil_append]
    rw [fR103 (show (((103 : UInt8).toNat : Nat) : Int) = 103 from rfl), fR110 (show (((110 : UInt8).toNat : Nat) : Int) = 110 from rfl), fR97 (show (((97 : UInt8).toNat : Nat) : Int) = 97 from rfl), fR107 (show (((107 : UInt8).toNat : Nat) : Int) = 107 from rfl), fR101 (show (((101 : UInt8).toNat : Nat) : Int) = 101 from rfl), fP3 hk]
    rw [show x.eg = x.gr by rw [Mv.eg, if_neg (by omega)]]
    rw [ge1, Bool.and_comm (allE x.es x.gr)]; simp only [Bool.and_assoc, Bool.and_true]
  · rw [hk, letL, if_neg (fun h => by cases h.1), fldS4 rfl]
    simp only [List.all_cons, List.all_nil, List.cons_append, List.nil_append]
    rw [fR103 (show (((103 : UInt8).toNat : Nat) : Int) = 103 from rfl), fR110 (show (((110 : UInt8).toNat : Nat) : Int) = 110 from rfl), fR97 (show (((97 : UInt8).toNat : Nat) : Int) = 97 from rfl), fP4 hk]
    rw [ge1]; simp only [Bool.and_assoc, Bool.and_true]
  · rw [hk, letL, if_neg (fun h => by cases h.1), fldS5 rfl]
    simp only [List.all_cons, List.all_nil, List.cons_append, List.nil_append]
    rw [fR103 (show (((103 : UInt8).toNat : Nat) : Int) = 103 from rfl), fR110 (show (((110 : UInt8).toNat : Nat) : Int) = 110 from rfl), fR98 (show (((98 : UInt8).toNat : Nat) : Int) = 98 from rfl), fP5 hk]
    rw [ge1, ge1]; simp only [Bool.and_assoc, Bool.and_true]
  · rw [hk, letL, if_neg (fun h => by cases h.1), fldS6 rfl]
    simp only [List.all_cons, List.all_nil, List.cons_append, List.nil_append]
    rw [fR103 (show (((103 : UInt8).toNat : Nat) : Int) = 103 from rfl), fR110 (show (((110 : UInt8).toNat : Nat) : Int) = 110 from rfl), fR98 (show (((98 : UInt8).toNat : Nat) : Int) = 98 from rfl), fP6 hk]
    rw [ge1, ge1]; simp only [Bool.and_assoc, Bool.and_true]
  · rw [hk, letL, if_neg (fun h => by cases h.1), fldS7 rfl]
    simp only [List.all_cons, List.all_nil, List.cons_append, List.nil_append]
    rw [fR103 (show (((103 : UInt8).toNat : Nat) : Int) = 103 from rfl), fR110 (show (((110 : UInt8).toNat : Nat) : Int) = 110 from rfl), fR98 (show (((98 : UInt8).toNat : Nat) : Int) = 98 from rfl), fP7 hk]
    rw [ge1, ge1]; simp only [Bool.and_assoc, Bool.and_true]
  · have z_fr : x.fr = 0 := by
      have h := congrArg Mv.fr hE
      rw [oP8 hk] at h
      by_cases hb : x.has = true
      · rw [if_pos hb] at h; exact h
      · rw [if_neg hb] at h; exact h
    have hg : x.eg = x.gr := by rw [Mv.eg, if_neg (by omega)]
    by_cases hb : x.has = true
    · rw [hk, letL, if_pos ⟨rfl, hb⟩, fldS8 rfl]
      simp only [List.all_cons, List.all_nil, List.cons_append, List.nil_append]
      rw [fR103 (show (((103 : UInt8).toNat : Nat) : Int) = 103 from rfl), fR110 (show (((110 : UInt8).toNat : Nat) : Int) = 110 from rfl), fR98 (show (((98 : UInt8).toNat : Nat) : Int) = 98 from rfl), fR101 (show (((101 : UInt8).toNat : Nat) : Int) = 101 from rfl), fRo (x := x) (c := (((104 : UInt8).toNat : Nat) : Int)) (by decide), fR120 (show (((120 : UInt8).toNat : Nat) : Int) = 120 from rfl), fR109 (show (((109 : UInt8).toNat : Nat) : Int) = 109 from rfl), fP8 hk, hg, z_fr, Int.zero_add, allE_and, ge1, ge1, ge1, hb, Mv.val]
      simp only [Bool.and_assoc, Bool.and_true, Bool.true_and, Bool.not_true, Bool.false_or]
    · rw [hk, letL, if_neg (fun h => hb h.2), fldS8 rfl]
      simp only [List.all_cons, List.all_nil, List.cons_append, List.nil_append]
      rw [fR103 (show (((103 : UInt8).toNat : Nat) : Int) = 103 from rfl), fR110 (show (((110 : UInt8).toNat : Nat) : Int) = 110 from rfl), fR98 (show (((98 : UInt8).toNat : Nat) : Int) = 98 from rfl), fR101 (show (((101 : UInt8).toNat : Nat) : Int) = 101 from rfl), fRo (x := x) (c := (((104 : UInt8).toNat : Nat) : Int)) (by decide), fP8 hk, hg, z_fr, Int.zero_add, allE_and, ge1, ge1, Bool.eq_false_iff.2 hb]
      simp only [Bool.and_assoc, Bool.and_true, Bool.true_and, Bool.not_false, Bool.true_or]
  · rw [hk, letL, if_neg (fun h => by cases h.1), fldS9 rfl]
    simp only [List.all_cons, List.all_nil, List.cons_append, List.nil_append]
    rw [fR103 (show (((103 : UInt8).toNat : Nat) : Int) = 103 from rfl), fR110 (show (((110 : UInt8).toNat : Nat) : Int) = 110 from rfl), fR98 (show (((98 : UInt8).toNat : Nat) : Int) = 98 from rfl), fR109 (show (((109 : UInt8).toNat : Nat) : Int) = 109 from rfl), fP9 hk]
    rw [show x.eg = x.gr by rw [Mv.eg, if_neg (by omega)]]
    rw [ge1, ge1, Mv.val]; simp only [Bool.and_assoc, Bool.and_true]
  · rw [hk, letL, if_neg (fun h => by cases h.1), fldS10 rfl]
    simp only [List.all_cons, List.all_nil, List.cons_append, List.nil_append]
    rw [fR118 (show (((118 : UInt8).toNat : Nat) : Int) = 118 from rfl), fR101 (show (((101 : UInt8).toNat : Nat) : Int) = 101 from rfl), fP10 hk]
    rw [show x.eg = x.vg by rw [Mv.eg, if_pos hk]]
    have z_gr : x.gr = 0 := by have h := congrArg Mv.gr hE; rw [oP10 hk] at h; exact h
    have z_fr : x.fr = 0 := by have h := congrArg Mv.fr hE; rw [oP10 hk] at h; exact h
    rw [decide_eq_true (show x.gr < 4 by omega), z_fr, Int.zero_add, allE_and]; simp only [Bool.and_assoc, Bool.and_true, Bool.true_and]
  · rw [hk, letL, if_neg (fun h => by cases h.1), fldS11 rfl]
    simp only [List.all_cons, List.all_nil, List.cons_append, List.nil_append]
    rw [fR103 (show (((103 : UInt8).toNat : Nat) : Int) = 103 from rfl), fR115 (show (((115 : UInt8).toNat : Nat) : Int) = 115 from rfl), fP11 hk]
    simp only [Bool.and_assoc, Bool.and_true]
  · rw [hk, letL, if_neg (fun h => by cases h.1), fldS12 rfl]
    simp only [List.all_cons, List.all_nil, List.cons_append, List.nil_append]
    rw [fR103 (show (((103 : UInt8).toNat : Nat) : Int) = 103 from rfl), fR115 (show (((115 : UInt8).toNat : Nat) : Int) = 115 from rfl), fP12 hk]
    simp only [Bool.and_assoc, Bool.and_true]
  · rw [hk, letL, if_neg (fun h => by cases h.1), fldS13 rfl]
    simp only [List.all_cons, List.all_nil, List.cons_append, List.nil_append]
    rw [fR103 (show (((103 : UInt8).toNat : Nat) : Int) = 103 from rfl), fR115 (show (((115 : UInt8).toNat : Nat) : Int) = 115 from rfl), fP13 hk]
    simp only [Bool.and_assoc, Bool.and_true]
theorem c_r7Right (x : Mg) (hi : MvIn x.er) : Ctr Try.prog 11 #[.agg x.row.toArray] (fun m => MgM m x) [] (fun _ : Unit => .bool x.er.right) (fun _ _ => True) (fun _ => []) := by
  have h := c_r7RightR x hi
  rwa [rightR_eq x.er hi.kd.1] at h
end Go.Proofs
