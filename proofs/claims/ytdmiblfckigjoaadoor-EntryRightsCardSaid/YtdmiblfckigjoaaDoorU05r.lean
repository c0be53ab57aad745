import Derived.Test.YtdmiblfckigjoaaDoorU05b
import Derived.Test.YtdmiblfckigjoaaDoorV05c
import Derived.Test.YtdmiblfckigjoaaDoorW05s
import Derived.Lib.ItoaLen
set_option linter.unusedVariables false
set_option linter.unusedSimpArgs false
set_option maxRecDepth 10000
namespace Go.Proofs
open Go X RowKit
/-! ### the table of powers, and numbers as text -/
def Tab (w : World) : Prop := Lib.TabIs Tryd.prog w "internal/strconv.uint64pow10" .u64 Lib.pow10Tab
theorem gTab : ∃ g, Tryd.prog.globalNamed "internal/strconv.uint64pow10" = some g := ⟨_, Tryd.itoaL.m17⟩
theorem tab_bel {w w' : World} (h : Tab w) (hb : Bel w.heap.size w w') : Tab w' := by
  obtain ⟨g, hg⟩ := gTab
  unfold Tab Lib.TabIs World.var? at h ⊢
  rw [hg] at h ⊢
  simp only [Option.bind_some] at h ⊢
  cases he : w.heap[g]? with
  | none => rw [he] at h; cases h
  | some o =>
    have hlt : g < w.heap.size := (Array.getElem?_eq_some_iff.1 he).1
    rw [hb.block g hlt]; exact h
def GivesT (f : FuncId) (args : Array Value) (V : Value) : Prop := ∀ w, Tab w → GivesAt Tryd.prog f args w V
theorem Gives.toT {f : FuncId} {args : Array Value} {V : Value} (h : Gives Tryd.prog f args V) : GivesT f args V := fun w _ => h w
theorem ctx_bel {m0 : Mem} {w0 w : World} {L : List Nat} {m : Mem} {As : List Asn} (C : Ctx [] m0 w0 w L m As) : Bel w0.heap.size w0 w := hid_below C.hid (by simp) (Nat.le_refl _)
/-- a call that needs the table -/
theorem ctx_givesT {m0 : Mem} {w0 w : World} {L : List Nat} {m : Mem} {As : List Asn} {f : FuncId} {args : Array Value} {V : Value} {R : Ending → World → Prop} (C : Ctx [] m0 w0 w L m As) (hT : Tab w0) (h : GivesT f args V)
    (k : ∀ w', Kept L w w' → Ctx [] m0 w0 w' L m As → R (.returned V) w') : CallX Tryd.prog f args w R :=
  (h w (tab_bel hT (ctx_bel C))).call fun w' hb => k w' (C.kept hb) (C.below hb)
theorem grow_bel (w : World) (k : Nat) (os : Array Obj) : Bel w.heap.size w (Sort.grow (w.drewN k) os) := by
  refine ⟨rfl, rfl, rfl, ?_, ?_, fun b hb => ?_⟩
  · simp [Sort.grow, World.drewN]
  · simp [Sort.grow, World.drewN]
  · simp only [Sort.grow, World.drewN]; exact Array.getElem?_append_left hb
abbrev itB (n : Int) : ByteArray := toBA (Lib.itoa n)
theorem c_Itoa (n : Int) (h0 : -9223372036854775808 ≤ n) (h1 : n ≤ 9223372036854775807) : GivesT 60 #[.int .i64 n] (.string (itB n)) := fun w hT =>
  (Any.strconv_Itoa Tryd.itoaL n h0 h1 w hT).mono fun e w' ⟨he, k, os, hw⟩ => ⟨he, by rw [hw]; exact grow_bel w k os⟩
theorem c_FormatInt (n : Int) (h0 : -9223372036854775808 ≤ n) (h1 : n ≤ 9223372036854775807) : GivesT 61 #[.int .i64 n, .int .i64 10] (.string (itB n)) := fun w hT =>
  (Any.strconv_FormatInt_10 Tryd.fmtL n h0 h1 w hT).mono fun e w' ⟨he, k, os, hw⟩ => ⟨he, by rw [hw]; exact grow_bel w k os⟩
theorem it_size (n : Int) (h0 : -9223372036854775808 ≤ n) (h1 : n ≤ 9223372036854775807) : (itB n).size ≤ 21 := by
  have := Lib.itoa_length_le n h0 h1
  show (Lib.itoa n).toArray.size ≤ 21
  simpa using this
theorem toBA_app (a b : List UInt8) : toBA a ++ toBA b = toBA (a ++ b) := by
  apply ByteArray.ext
  show (toBA a ++ toBA b).data = _
  rw [ByteArray.data_append]
  simp [toBA]
theorem dig_rec (u : Nat) (h : ¬ u < 10) : Lib.decDigits u = Lib.decDigits (u / 10) ++ Lib.decDigits (u % 10) := by
  rw [Lib.decDigits, dif_neg h, Lib.decDigits_one (i := u % 10) (by omega)]
/-- the document's digits -/
theorem c_Digits : ∀ (k : Nat) (n : Int), n.natAbs ≤ k → -9223372036854775808 ≤ n → n ≤ 9223372036854775807 → Gives Tryd.prog 53 #[.int .i64 n] (.string (itB n)) := by
  intro k
  induction k using Nat.strongRecOn with
  | _ k ih =>
  intro n hk h0 h1 w
  refine x_Digits _ w _ ?_
  by_cases hn : n < 0
  · rw [if_pos (by simpa using hn)]
    obtain ⟨u, rfl⟩ : ∃ u : Nat, n = -(u : Int) := ⟨n.natAbs, by omega⟩
    have hu : (-(u : Int)).natAbs = u := by omega
    have e0 : Lib.itoa (-(u : Int)) = 45 :: Lib.decDigits u := by rw [Lib.itoa, if_pos hn, hu]
    by_cases h9 : -(u : Int) < -9
    · rw [if_pos (by simpa using h9)]
      have hd : Int.tdiv (-(u : Int)) 10 = -((u / 10 : Nat) : Int) := by rw [Int.neg_tdiv, Int.tdiv_eq_ediv_of_nonneg (by omega)]; rfl
      have hm : Int.tmod (-(u : Int)) 10 = -((u % 10 : Nat) : Int) := by rw [Int.neg_tmod, Int.tmod_eq_emod_of_nonneg (by omega)]; rfl
      have e1 : IntKind.wrap .i64 (0 - IntKind.wrap .i64 (Int.tdiv (-(u : Int)) 10)) = ((u / 10 : Nat) : Int) := by rw [hd, w_i64 (n := -((u / 10 : Nat) : Int)) (by omega) (by omega), w_i64 (by omega) (by omega)]; omega
      have e2 : IntKind.wrap .i64 (0 - Int.tmod (-(u : Int)) 10) = ((u % 10 : Nat) : Int) := by rw [hm, w_i64 (by omega) (by omega)]; omega
      rw [e1, e2]
      refine Gives.call (ih (u / 10) (by omega) _ (by omega) (by omega) (by omega)) fun w13 b13 => ⟨_, rfl, b13.size, ?_, ?_⟩
      · have := it_size ((u / 10 : Nat) : Int) (by omega) (by omega); omega
      refine Gives.call (ih (u % 10) (by omega) _ (by omega) (by omega) (by omega)) fun w16 b16 => ⟨_, rfl, b16.size, ?_, ?_, ?_⟩
      · have h2 := it_size ((u / 10 : Nat) : Int) (by omega) (by omega)
        have h3 := it_size ((u % 10 : Nat) : Int) (by omega) (by omega)
        rw [ByteArray.size_append]
        have : (ByteArray.mk #[45]).size = 1 := rfl
        show (((ByteArray.mk #[45]).size + _ + _ : Nat) : Int) ≤ _
        omega
      · have e3 : Lib.itoa ((u / 10 : Nat) : Int) = Lib.decDigits (u / 10) := by rw [Lib.itoa, if_neg (by omega)]; rfl
        have e4 : Lib.itoa ((u % 10 : Nat) : Int) = Lib.decDigits (u % 10) := by rw [Lib.itoa, if_neg (by omega)]; rfl
        have : (ByteArray.mk #[OfNat.ofNat 45] ++ itB ((u / 10 : Nat) : Int) ++ itB ((u % 10 : Nat) : Int)) = itB (-(u : Int)) := by
          show toBA [45] ++ toBA _ ++ toBA _ = toBA _
          rw [toBA_app, toBA_app, e0, e3, e4, dig_rec u (by omega)]; simp
        rw [this]
      · exact below_trans b13 (below_mono b16 b13.size)
    · rw [if_neg (by simpa using h9)]
      have e1 : IntKind.wrap .i64 (0 - -(u : Int)) = (u : Int) := by rw [w_i64 (by omega) (by omega)]; omega
      rw [e1]
      have hpos : Gives Tryd.prog 53 #[.int .i64 (u : Int)] (.string (itB (u : Int))) := by
        intro w
        refine x_Digits _ w _ ?_
        rw [if_neg (by simp only [decide_eq_true_eq]; omega), if_pos (by simp only [decide_eq_true_eq]; omega)]
        have C := (lawStart w).alloc [.int .u8 (IntKind.wrap .u8 (IntKind.wrap .i64 (48 + (u : Int))))] 5
        have e2 : IntKind.wrap .u8 (IntKind.wrap .i64 (48 + (u : Int))) = ((UInt8.ofNat (48 + u)).toNat : Int) := by
          rw [w_i64 (by omega) (by omega), w_u8 (by omega) (by omega)]
          have : (UInt8.ofNat (48 + u)).toNat = (48 + u) % 256 := rfl
          rw [this, Nat.mod_eq_of_lt (by omega)]; omega
        rw [e2] at C ⊢
        have hc : Cells _ ⟨w.heap.size, 0, none⟩ (byV [UInt8.ofNat (48 + u)]) := C.blkCells (o := 0) fun k v e => by simpa [byV] using e
        refine ⟨_, _, run_str (P := Tryd.prog) (e := 5) Tryd.underlying103 Tryd.underlying5 Tryd.underlying9 (.some ⟨w.heap.size, 0, none⟩ 1 1 _ rfl hc) ⟨_, _, rfl⟩, Nat.le_refl _, ?_, ctx_bel C⟩
        have : Lib.itoa (u : Int) = [UInt8.ofNat (48 + u)] := by rw [Lib.itoa, if_neg (by omega)]; exact Lib.decDigits_one (by omega)
        rw [itB, this]
      refine hpos.call fun w10 b10 => ⟨_, rfl, b10.size, ?_, ?_, b10⟩
      · have := it_size (u : Int) (by omega) (by omega); omega
      · have e3 : Lib.itoa (u : Int) = Lib.decDigits u := by rw [Lib.itoa, if_neg (by omega)]; rfl
        have : (ByteArray.mk #[OfNat.ofNat 45] ++ itB (u : Int)) = itB (-(u : Int)) := by
          show toBA [45] ++ toBA _ = toBA _
          rw [toBA_app, e0, e3]; rfl
        rw [this]
  · rw [if_neg (by simpa using hn)]
    obtain ⟨u, rfl⟩ : ∃ u : Nat, n = (u : Int) := ⟨n.natAbs, by omega⟩
    have e0 : Lib.itoa (u : Int) = Lib.decDigits u := by rw [Lib.itoa, if_neg (by omega)]; rfl
    by_cases h10 : u < 10
    · rw [if_pos (by simp only [decide_eq_true_eq]; omega)]
      have C := (lawStart w).alloc [.int .u8 (IntKind.wrap .u8 (IntKind.wrap .i64 (48 + (u : Int))))] 5
      have e2 : IntKind.wrap .u8 (IntKind.wrap .i64 (48 + (u : Int))) = ((UInt8.ofNat (48 + u)).toNat : Int) := by
        rw [w_i64 (by omega) (by omega), w_u8 (by omega) (by omega)]
        have : (UInt8.ofNat (48 + u)).toNat = (48 + u) % 256 := rfl
        rw [this, Nat.mod_eq_of_lt (by omega)]; omega
      rw [e2] at C ⊢
      have hc : Cells _ ⟨w.heap.size, 0, none⟩ (byV [UInt8.ofNat (48 + u)]) := C.blkCells (o := 0) fun k v e => by simpa [byV] using e
      refine ⟨_, _, run_str (P := Tryd.prog) (e := 5) Tryd.underlying103 Tryd.underlying5 Tryd.underlying9 (.some ⟨w.heap.size, 0, none⟩ 1 1 _ rfl hc) ⟨_, _, rfl⟩, Nat.le_refl _, ?_, ctx_bel C⟩
      rw [itB, e0, Lib.decDigits_one h10]
    · rw [if_neg (by simp only [decide_eq_true_eq]; omega)]
      have hd : Int.tdiv (u : Int) 10 = ((u / 10 : Nat) : Int) := by rw [Int.tdiv_eq_ediv_of_nonneg (by omega)]; rfl
      have hm : Int.tmod (u : Int) 10 = ((u % 10 : Nat) : Int) := by rw [Int.tmod_eq_emod_of_nonneg (by omega)]; rfl
      have hd' : IntKind.wrap .i64 (Int.tdiv (u : Int) 10) = ((u / 10 : Nat) : Int) := by rw [hd, w_i64 (by omega) (by omega)]
      rw [hd', hm]
      refine Gives.call (ih (u / 10) (by omega) _ (by omega) (by omega) (by omega)) fun w2 b2 => ⟨_, rfl, b2.size, ?_⟩
      refine Gives.call (ih (u % 10) (by omega) _ (by omega) (by omega) (by omega)) fun w5 b5 => ⟨_, rfl, b5.size, ?_, ?_, ?_⟩
      · have h2 := it_size ((u / 10 : Nat) : Int) (by omega) (by omega)
        have h3 := it_size ((u % 10 : Nat) : Int) (by omega) (by omega)
        omega
      · have e3 : Lib.itoa ((u / 10 : Nat) : Int) = Lib.decDigits (u / 10) := by rw [Lib.itoa, if_neg (by omega)]; rfl
        have e4 : Lib.itoa ((u % 10 : Nat) : Int) = Lib.decDigits (u % 10) := by rw [Lib.itoa, if_neg (by omega)]; rfl
        have : itB ((u / 10 : Nat) : Int) ++ itB ((u % 10 : Nat) : Int) = itB (u : Int) := by
          show toBA _ ++ toBA _ = toBA _
          rw [toBA_app, e0, e3, e4, dig_rec u h10]
        rw [this]
      · exact below_trans b2 (below_mono b5 b2.size)
end Go.Proofs
