import Derived.Test.YtfbjellaijdgbaaDoorXList
import Derived.Lib.SlBytesConst
import Derived.Laws.BytesString
set_option linter.unusedVariables false
set_option linter.unusedSimpArgs false
/- The engine, part 20: bytes and strings. -/
namespace Go.X
open Go RowKit
section
variable {P : Program} {F0 : List Nat} {m0 : Mem} {w0 w : World} {L : List Nat} {m : Mem} {As : List Asn}
/-- a new block that is only read -/
theorem Ctx.newShare (C : Ctx F0 m0 w0 w L m As) (cs : List Value) (ty : TypeId) (fr : Nat × Nat) : Ctx F0 m0 w0 (w.alloc (.cells cs.toArray ty fr)) L (m.plus w.heap.size cs) As ∧ m.le (m.plus w.heap.size cs) := by
  have hm : m.le (m.plus w.heap.size cs) := fun a v e => by
    have := World.block_lt_of_cell? w a (C.cell e)
    simp only [Mem.plus]; rw [if_neg (by omega)]; exact e
  refine ⟨?_, hm⟩
  have hb := C.below (w' := w.alloc (.cells cs.toArray ty fr)) ⟨rfl, rfl, rfl, by simp, Nat.le_refl _, fun b hb => heap_alloc_old w _ hb⟩
  obtain ⟨F, hF, ho⟩ := hb.own
  obtain ⟨F', hF', ho'⟩ := C.own
  refine ⟨hb.hid, hb.f0, C.le.le_trans hm, fun a v e => ?_, hb.loc, F', hF'.frame fun b hb => heap_alloc_old w _ (ho'.inF b hb).1, fun b hb => ?_, fun a v e => ?_⟩
  · simp only [Mem.plus] at e
    split at e
    · rename_i hc; rw [hc]; exact .inr (.inr C.hid.size)
    · exact C.new a v e
  · obtain ⟨h1, h2, h3⟩ := ho'.inF b hb
    exact ⟨by simp; omega, h2, h3⟩
  · simp only [Mem.plus] at e
    split at e
    · rename_i hc
      split at e
      · cases e
      · rename_i hs
        rw [hc]
        refine ⟨?_, fun hx => absurd (ho'.inF _ hx).1 (Nat.lt_irrefl _), fun hx => absurd (C.loc _ hx).2 (Nat.lt_irrefl _)⟩
        have : (w.alloc (.cells cs.toArray ty fr)).heap[a.block]? = some (.cells cs.toArray ty fr) := by rw [hc]; exact heap_alloc_new w _
        simp only [World.cell?, this]
        rw [if_neg hs]
        simpa using e
    · obtain ⟨g1, g2, g3⟩ := ho'.mem a v e
      have hlt := World.block_lt_of_cell? w a g1
      exact ⟨(World.cell?_of_block (heap_alloc_old w _ hlt)).trans g1, g2, g3⟩
def toBA (bs : List UInt8) : ByteArray := ⟨bs.toArray⟩
theorem toBA_toList (bs : List UInt8) : (toBA bs).toList = (toBA bs).toList := rfl
theorem fold_push (bs : List UInt8) : ∀ (s : ByteArray), (bs.map fun b => (b.toNat : Int)).foldl (fun r n => r.push (UInt8.ofNat n.toNat)) s = ⟨s.data ++ bs.toArray⟩ := by
  induction bs with
  | nil => intro s; simp
  | cons b bs ih =>
    intro s
    rw [List.map_cons, List.foldl_cons, ih]
    have : UInt8.ofNat ((b.toNat : Int).toNat) = b := by simp
    rw [this]
    simp [ByteArray.push]
/-- bytes as a string -/
theorem run_str {src dst e : TypeId} {v : Value} {n : Nat} {bs : List UInt8} (hs : P.underlying src = some (.slice e)) (he : P.underlying e = some (.int .u8)) (hd : P.underlying dst = some .string) (h : Src w 1 v n (byV bs)) (hv : ∃ q c, v = .slice q n c) :
    (convert src dst v).run P w = .ok (.string (toBA bs)) w := by
  obtain ⟨q, c, rfl⟩ := hv
  rw [run_convert_bytes_string w src dst e q n c hs he hd]
  have hl : bs.length = n := by have := h.len; rw [byV_len] at this; omega
  cases q with
  | none =>
    have hb : bs = [] ∧ n = 0 := by
      generalize hvv : Value.slice none n c = v at h
      generalize hcs : byV bs = cs at h
      cases h with
      | none q c' =>
        injection hvv with _ h2 _
        refine ⟨?_, h2⟩
        cases bs with
        | nil => rfl
        | cons b bs => simp [byV] at hcs
      | some a => cases hvv
      | str => cases hvv
    obtain ⟨rfl, rfl⟩ := hb
    rfl
  | some a =>
    have hf := run_firstCells (P := P) h
    simp only [Builtin.firstCells] at hf
    rw [Nat.mul_one] at hf
    have := run_bytesToString (P := P) w a n c (bs.map fun b => (b.toNat : Int)) (by rw [hf]; simp [byV])
    rw [this, fold_push]
    simp [toBA]
theorem toBA_inj {a b : List UInt8} : toBA a = toBA b ↔ a = b := by
  constructor
  · intro h
    have : (toBA a).data.toList = (toBA b).data.toList := by rw [h]
    simpa [toBA] using this
  · intro h; rw [h]
theorem data_len (s : ByteArray) : s.data.toList.length = s.size := Array.length_toList
theorem toList_loop (s : ByteArray) (k i : Nat) (r : List UInt8) (hk : s.size - i = k) : ByteArray.toList.loop s i r = r.reverse ++ s.data.toList.drop i := by
  have hd := data_len s
  induction k generalizing i r with
  | zero =>
    unfold ByteArray.toList.loop
    rw [if_neg (by omega), List.drop_eq_nil_of_le (by omega)]
    simp
  | succ k ih =>
    unfold ByteArray.toList.loop
    rw [if_pos (by omega), ih (i + 1) _ (by omega)]
    have hlt : i < s.data.toList.length := by omega
    rw [List.drop_eq_getElem_cons hlt]
    have hg : s.get! i = s.data.toList[i] := by
      have h2 : i < s.data.size := hlt
      show s.data[i]! = _
      rw [getElem!_pos s.data i h2]; rfl
    rw [hg]; simp
theorem toBA_list (a : List UInt8) : (toBA a).toList = a := by
  unfold ByteArray.toList
  rw [toList_loop _ _ 0 [] rfl]; simp [toBA]
theorem toBA_beq (a b : List UInt8) : ((toBA a).toList == (toBA b).toList) = decide (a = b) := by
  rw [toBA_list, toBA_list]
  by_cases h : a = b
  · simp [h]
  · simp [h]
end
end Go.X
