import Derived.Test.YtfbjellaijdgbaaDoorU06b
import Derived.Test.YtfbjellaijdgbaaDoorV06n
import Derived.Shelf.Strings.Builder1
import Derived.Test.YtfbjellaijdgbaaDoorChecked
set_option linter.unusedVariables false
set_option linter.unusedSimpArgs false
set_option maxRecDepth 10000
namespace Go.Proofs
open Go X RowKit Go.Shelf
/-! ### copyCheck -/
theorem bl67 : (Tryd.prog.info? 70).map (·.size) = some 2 := by kernel_rfl
theorem ln67 : liesAt Tryd.prog Tryd.prog.depth 70 (2 / Tryd.prog.cellsOf 70) 0 70 1 = true := by kernel_rfl
set_option maxHeartbeats 1000000 in
set_option maxRecDepth 100000 in
theorem cc_used (b : Nat) (w : World) (h0 : w.cell? ⟨b, 0, none⟩ = some (.pointer (some ⟨b, 0, none⟩))) :
    Calls Tryd.prog 47 #[.pointer (some ⟨b, 0, none⟩)] w fun e w' => e = .returned (.tuple #[]) ∧ w' = w := by
  obtain ⟨j, hj, _⟩ := Option.map_eq_some_iff.1 bl67
  have mixed : Tryd.prog.follows .mixedOrders = true := by kernel_rfl
  have t70 := Tryd.underlying70; have a70 := Tryd.isAgg70; have z70 := Tryd.sizeOf70; have v70 := Tryd.zeroValue70; have u70 := run_underlying t70
  have t67 := Tryd.underlying67; have a67 := Tryd.isAgg67; have z67 := Tryd.sizeOf67; have v67 := Tryd.zeroValue67; have u67 := run_underlying t67
  have t4 := Tryd.underlying4; have a4 := Tryd.isAgg4; have z4 := Tryd.sizeOf4; have v4 := Tryd.zeroValue4; have u4 := run_underlying t4
  have t85 := Tryd.underlying85; have a85 := Tryd.isAgg85; have z85 := Tryd.sizeOf85; have v85 := Tryd.zeroValue85; have u85 := run_underlying t85
  go_enter Tryd.func47, Tryd.ntmps47
  go_wp2
  rw [Lib.run_neq_ptr_same w _ t67 hj]
  go_wp2
  go_end0
  exact ⟨rfl, rfl⟩
set_option maxHeartbeats 1000000 in
set_option maxRecDepth 100000 in
theorem cc_fresh (b : Nat) (w : World) (h0 : w.cell? ⟨b, 0, none⟩ = some (.pointer none)) (hsh : w.shape? b = some (70, 2)) (hfz : w.frozen? ⟨b, 0, none⟩ = false) :
    Calls Tryd.prog 47 #[.pointer (some ⟨b, 0, none⟩)] w fun e w' => e = .returned (.tuple #[]) ∧ w' = w.setCell ⟨b, 0, none⟩ (.pointer (some ⟨b, 0, none⟩)) := by
  obtain ⟨j, hj, hjs⟩ := Option.map_eq_some_iff.1 bl67
  have mixed : Tryd.prog.follows .mixedOrders = true := by kernel_rfl
  have t70 := Tryd.underlying70; have a70 := Tryd.isAgg70; have z70 := Tryd.sizeOf70; have v70 := Tryd.zeroValue70; have u70 := run_underlying t70
  have t67 := Tryd.underlying67; have a67 := Tryd.isAgg67; have z67 := Tryd.sizeOf67; have v67 := Tryd.zeroValue67; have u67 := run_underlying t67
  have t4 := Tryd.underlying4; have a4 := Tryd.isAgg4; have z4 := Tryd.sizeOf4; have v4 := Tryd.zeroValue4; have u4 := run_underlying t4
  have t85 := Tryd.underlying85; have a85 := Tryd.isAgg85; have z85 := Tryd.sizeOf85; have v85 := Tryd.zeroValue85; have u85 := run_underlying t85
  go_enter Tryd.func47, Tryd.ntmps47
  go_wp2
  rw [Lib.run_to_unsafe w ⟨b, 0, none⟩ t67 t85 hj (by rw [hjs]; decide) hsh (Nat.zero_lt_succ 1)]
  simp only [Result.andThen]
  rw [Oper.upon_value]
  go_wp2
  rw [run_callFunc_extern Tryd.func50 (by kernel_rfl) (by kernel_rfl) (by kernel_rfl) (e := Extern.AbiNoEscape.same) (by kernel_rfl)]
  rw [Lib.run_noEscape]
  simp only [Result.andThen]
  rw [Oper.upon_value]
  go_wp2
  rw [Lib.run_from_unsafe w ⟨b, 0, none⟩ t85 t67 hj hsh ln67]
  simp only [Result.andThen]
  rw [Oper.upon_value]
  go_wp2
  go_end0
  exact ⟨rfl, rfl⟩
/-- a builder: its block, and the bytes -/
abbrev bldA (b : Nat) (p v : Value) : Asn := blk b [p, v] 70
abbrev byA (v : Value) (l : List UInt8) : Asn := slA v l.length (byV l) 5 1
theorem c_ccf (b : Nat) (v : Value) : Ctr Tryd.prog 47 #[.pointer (some ⟨b, 0, none⟩)] noMem [bldA b (.pointer none) v] (fun _ : Unit => .tuple #[]) (fun _ _ => True) (fun _ => [bldA b (.pointer (some ⟨b, 0, none⟩)) v]) := by
  refine Ctr.mk fun w F m C _ => ?_
  have hb := C.blkAt.1
  refine (cc_fresh b w (C.blkCell (j := 0) rfl) (by simp [World.shape?, hb]) (by simp [World.frozen?, hb])).mono ?_
  rintro e w' ⟨rfl, rfl⟩
  have D := C.store 0 [.pointer (some ⟨b, 0, none⟩)] (by simp)
  have e : w.setCells b 0 [.pointer (some ⟨b, 0, none⟩)] = w.setCell ⟨b, 0, none⟩ (.pointer (some ⟨b, 0, none⟩)) := rfl
  rw [e] at D
  exact Ctr.ret (L := []) () rfl trivial D
theorem c_ccu (b : Nat) (v : Value) : Ctr Tryd.prog 47 #[.pointer (some ⟨b, 0, none⟩)] noMem [bldA b (.pointer (some ⟨b, 0, none⟩)) v] (fun _ : Unit => .tuple #[]) (fun _ _ => True) (fun _ => [bldA b (.pointer (some ⟨b, 0, none⟩)) v]) := by
  refine Ctr.mk fun w F m C _ => ?_
  refine (cc_used b w (C.blkCell (j := 0) rfl)).mono ?_
  rintro e w' ⟨rfl, rfl⟩
  exact Ctr.ret (L := []) () rfl trivial C
/-! ### WriteString -/
theorem c_WS (b : Nat) (p v : Value) (l : List UInt8) (s : ByteArray) (hp : p = .pointer none ∨ p = .pointer (some ⟨b, 0, none⟩)) (hs : l.length + s.size ≤ 1000000) :
    Ctr Tryd.prog 35 #[.pointer (some ⟨b, 0, none⟩), .string s] noMem [bldA b p v, byA v l] (fun _ : Value => .tuple #[.int .i64 s.size, .nilIface]) (fun _ _ => True) (fun v' => [bldA b (.pointer (some ⟨b, 0, none⟩)) v', byA v' (l ++ s.data.toList)]) := by
  have hcc : Ctr Tryd.prog 47 #[.pointer (some ⟨b, 0, none⟩)] noMem [bldA b p v] (fun _ : Unit => .tuple #[]) (fun _ _ => True) (fun _ => [bldA b (.pointer (some ⟨b, 0, none⟩)) v]) := by
    rcases hp with rfl | rfl
    · exact c_ccf b v
    · exact c_ccu b v
  refine Ctr.mk fun w F m C _ => x_WriteString _ _ w _ ?_
  refine hcc.call (As := [byA v l]) C trivial fun _ m2 w2 hk hm2 _ C => ⟨rfl, hk.size, ?_⟩
  obtain ⟨q, c, rfl, -⟩ := C.swap.slO
  refine ⟨q, _, c, C.blkCell (j := 1) rfl, ?_⟩
  have hsz : (byV l).length = l.length := by simp [byV]
  obtain ⟨q6, k8, w9, hr, hkk, D⟩ := C.swap.app2 (P := Tryd.prog) (bytes := 1) (t := 68) (t2 := 9) 68 (by kernel_rfl) (.str s rfl) (by unfold maxLen; omega) (by omega) (by intro u hu; simp only [List.mem_map] at hu; obtain ⟨x, -, rfl⟩ := hu; rfl)
  refine ⟨q6, _, k8, w9, hr, hkk.size, rfl, D.swap.there _ _ (by simp), ?_⟩
  have E := D.swap.store 1 [.slice q6 (l.length + s.size) k8] (by simp)
  refine Ctr.ret (m' := m2) (L := []) (Bs := fun v' => [bldA b (.pointer (some ⟨b, 0, none⟩)) v', byA v' (l ++ s.data.toList)]) (r := fun _ : Value => .tuple #[.int .i64 s.size, .nilIface]) (.slice q6 (l.length + s.size) k8) rfl trivial ?_
  have e1 : byV (l ++ s.data.toList) = byV l ++ s.data.toList.map (fun b => Value.int .u8 b.toNat) := by simp [byV]
  have e2 : (l ++ s.data.toList).length = l.length + s.size := by rw [List.length_append, data_len]
  rw [byA, e1, e2]
  exact E
/-! ### String -/
theorem lies_off {e : TypeId} {P : Program} (hc : P.cellsOf e = 1) (count o n : Nat) (hn : o + n ≤ count) : liesAt P P.depth e count o e n = true := by
  have hd : P.depth = (2 * (P.types.size + Made.depth) + 1) + 1 := rfl
  rw [hd]
  simp only [liesAt, Bool.or_eq_true]
  left
  rw [hd]
  simp [rowAt, hc, hn, sameLayout, Nat.mod_one]
theorem us_row {P : Program} (w : World) (pt it ty e : TypeId) (hp : P.underlying pt = some (.pointer e)) (hc : P.cellsOf e = 1) (g o cells : Nat) (hsh : w.shape? g = some (e, cells)) (l : List UInt8) (h0 : l ≠ []) (hn : o + l.length ≤ cells) (h63 : l.length ≤ 9223372036854775807)
    (hcell : ∀ j x, l[j]? = some x → w.cell? ((⟨g, o, none⟩ : Addr).add j) = some (.int .u8 x.toNat)) :
    (Builtin.unsafeString_ #[pt, it] ty #[.pointer (some ⟨g, o, none⟩), .int .i64 l.length]).run P w = .ok (.string ⟨l.toArray⟩) (w.freeze ⟨g, o, none⟩ l.length) := by
  have hl : l.length ≠ 0 := by simpa using h0
  have hlb := Lib.run_loadBytes (P := P) w l ⟨g, o, none⟩ .empty hcell
  have hlies := lies_off (P := P) hc (cells / P.cellsOf e) o l.length (by rw [hc]; simpa using hn)
  have h63' : ¬ (9223372036854775807 : Int) < (l.length : Int) := by omega
  obtain ⟨msg, hdef⟩ : ∃ msg : String, Builtin.unsafeString_ #[pt, it] ty #[.pointer (some ⟨g, o, none⟩), .int .i64 l.length] =
      (do
        let n ← asInt (.int .i64 l.length)
        if n < 0 then runtimePanic (.error msg)
        if n > IntKind.i64.max then unsupported (.unsafePointer "String: a length above the largest int")
        if n = 0 then pure (.string .empty)
        else if ← variablesAt ⟨g, o, none⟩ (← elemOf pt) n.toNat then do
          let s ← loadBytes ⟨g, o, none⟩ .empty n.toNat
          freeze ⟨g, o, none⟩ n.toNat
          pure (.string s)
        else unsupported (.unsafePointer "String: not so many bytes at ptr")) := ⟨_, rfl⟩
  rw [hdef]
  have hmax : IntKind.i64.max = 9223372036854775807 := rfl
  have hneg : ¬ (l.length : Int) < 0 := by omega
  simp [asInt, asIntOf, hmax, h63', hneg, hl, variablesAt, hsh, elemOf, run_underlying hp, hlies, hlb]
set_option maxHeartbeats 1000000 in
set_option maxRecDepth 100000 in
theorem bstr (b g o cap : Nat) (p : Value) (cur : Array Value) (l : List UInt8) (w : World) (h0 : l ≠ []) (hbk : w.heap[b]? = some (.cells #[p, .slice (some ⟨g, o, none⟩) l.length cap] 70 (0, 0)))
    (hbg : w.heap[g]? = some (.cells cur 5 (0, 0))) (hnc : l.length ≤ cap) (hcm : cap ≤ maxLen) (hfit : o + l.length ≤ cur.size) (hcell : ∀ j x, l[j]? = some x → w.cell? ((⟨g, o, none⟩ : Addr).add j) = some (.int .u8 x.toNat)) :
    Calls Tryd.prog 38 #[.pointer (some ⟨b, 0, none⟩)] w fun e w' => e = .returned (.string ⟨l.toArray⟩) ∧ w' = w.drew.freeze ⟨g, o, none⟩ l.length := by
  have hl0 : l.length ≠ 0 := by simpa using h0
  have c1 : w.drew.cell? ⟨b, 1, none⟩ = some (.slice (some ⟨g, o, none⟩) l.length cap) := by
    have : w.drew.heap[b]? = some (.cells #[p, .slice (some ⟨g, o, none⟩) l.length cap] 70 (0, 0)) := hbk
    rw [Lib.cell_of_heap this]; rfl
  have hSD : (Builtin.unsafeSliceData_ #[68] 84 #[.slice (some ⟨g, o, none⟩) l.length cap]).run Tryd.prog w.drew = .ok (.pointer (some ⟨g, o, none⟩)) w.drew :=
    Lib.run_unsafeSliceData_row _ _ _ _ _ _ (by omega)
  have hUS : (Builtin.unsafeString_ #[84, 3] 9 #[.pointer (some ⟨g, o, none⟩), .int .i64 l.length]).run Tryd.prog w.drew = .ok (.string ⟨l.toArray⟩) (w.drew.freeze ⟨g, o, none⟩ l.length) := by
    refine us_row w.drew 84 3 9 5 Tryd.underlying84 (by kernel_rfl) g o cur.size (by have hg' : w.drew.heap[g]? = some (.cells cur 5 (0, 0)) := hbg; simp [World.shape?, hg']) l h0 hfit (by unfold maxLen at hcm; omega) ?_
    intro j x hx
    exact hcell j x hx
  have mixed : Tryd.prog.follows .mixedOrders = true := by kernel_rfl
  have t70 := Tryd.underlying70; have a70 := Tryd.isAgg70; have z70 := Tryd.sizeOf70; have v70 := Tryd.zeroValue70; have u70 := run_underlying t70
  have t67 := Tryd.underlying67; have a67 := Tryd.isAgg67; have z67 := Tryd.sizeOf67; have v67 := Tryd.zeroValue67; have u67 := run_underlying t67
  have t68 := Tryd.underlying68; have a68 := Tryd.isAgg68; have z68 := Tryd.sizeOf68; have v68 := Tryd.zeroValue68; have u68 := run_underlying t68
  have t84 := Tryd.underlying84; have a84 := Tryd.isAgg84; have z84 := Tryd.sizeOf84; have v84 := Tryd.zeroValue84; have u84 := run_underlying t84
  have t3 := Tryd.underlying3; have a3 := Tryd.isAgg3; have z3 := Tryd.sizeOf3; have v3 := Tryd.zeroValue3; have u3 := run_underlying t3
  have t9 := Tryd.underlying9; have a9 := Tryd.isAgg9; have z9 := Tryd.sizeOf9; have v9 := Tryd.zeroValue9; have u9 := run_underlying t9
  have t5 := Tryd.underlying5; have a5 := Tryd.isAgg5; have z5 := Tryd.sizeOf5; have v5 := Tryd.zeroValue5; have u5 := run_underlying t5
  go_enter Tryd.func38, Tryd.ntmps38
  go_wp2
  go_region_o
  all_goals (go_wp2; go_ret; exact ⟨rfl, rfl⟩)
theorem freeze_hid (w : World) (g o n : Nat) : Hid [g] w (w.drew.freeze ⟨g, o, none⟩ n) := by
  have h1 : Hid [g] w w.drew := ⟨rfl, rfl, rfl, Nat.le_refl _, Nat.le_succ _, fun _ _ _ => rfl⟩
  unfold World.freeze
  split
  · exact h1
  · refine ⟨rfl, rfl, rfl, Nat.le_of_eq (Array.size_modify ..).symm, Nat.le_succ _, fun k hk hn => ?_⟩
    simp only [Array.getElem?_modify]
    rw [if_neg (fun e => hn (List.mem_singleton.2 e.symm))]
    rfl
theorem c_BStr (b : Nat) (p v : Value) (l : List UInt8) (h0 : l ≠ []) : Ctr Tryd.prog 38 #[.pointer (some ⟨b, 0, none⟩)] noMem [bldA b p v, byA v l] (fun _ : Unit => .string (toBA l)) (fun _ _ => True) (fun _ => []) := by
  refine Ctr.mk fun w F m C _ => ?_
  have hbl : (byV l).length = l.length := by simp [byV]
  have hl0 : l.length ≠ 0 := by simpa using h0
  obtain ⟨q, cap, rfl, -, hn, hcm, h⟩ := C.swap.slO
  have hbk := C.blkAt.1
  have hc := C.swap.slCells
  rcases h with ⟨rfl, _⟩ | ⟨g, pre, rest, rfl, hr, D⟩
  · omega
  · have hbg := D.blkAt.1
    refine (bstr b g pre.length cap p _ l w h0 hbk hbg hn hcm (by simp [hbl]) (fun j x hx => ?_)).mono ?_
    · exact (hc.1 _ rfl).1 j _ (by simp [byV, hx])
    · rintro e w' ⟨rfl, rfl⟩
      obtain ⟨i, hi⟩ : ∃ o, (w.drew.freeze ⟨g, pre.length, none⟩ l.length).heap[g]? = some o := by
        have hs := (freeze_hid w g pre.length l.length).size
        have hg : g < w.heap.size := (Array.getElem?_eq_some_iff.1 hbg).1
        exact ⟨_, Array.getElem?_eq_getElem (by omega)⟩
      have E := (D.turn (b := g) (B := objB g i) (fun F hF => hF.1) (freeze_hid w g pre.length l.length) ⟨rfl, hi⟩).1
      exact Ctr.ret (L := []) () rfl trivial E.drop.drop
end Go.Proofs
