import Derived.Test.YtdmiblfckigjoaaDoorU05e
set_option linter.unusedVariables false
set_option linter.unusedSimpArgs false
set_option maxRecDepth 10000
namespace Go.Proofs
open Go X RowKit
def evL (x : Ev) : List UInt8 :=
  if x.kd = 0 then [67, 97, 108, 108, 32] ++ idL x.id ++ x.ps.flatMap (fun p => 32 :: showL p)
  else if x.kd = 3 then [67, 104, 101, 99, 107, 32] ++ idL x.id ++ x.ps.flatMap (fun p => 32 :: showL p)
  else if x.kd = 1 then [66, 97, 99, 107, 32] ++ idL x.id
  else if x.kd = 2 then [75, 105, 108, 108, 32] ++ (Lib.itoa x.vn ++ [46] ++ Lib.itoa x.vl) else []
theorem show_size (p : Pt) (hp : PtIn p) : (toBA (showL p)).size ≤ 600000000000000 := by
  have k1 := hp.key
  have k2 := hp.val
  have z1 := it_size p.g (by have := hp.g; omega) (by have := hp.g; omega)
  have z2 := it_size p.n hp.n.1 hp.n.2
  have z1 : (Lib.itoa p.g).length ≤ 21 := by simpa [toBA, ByteArray.size] using z1
  have z2 : (Lib.itoa p.n).length ≤ 21 := by simpa [toBA, ByteArray.size] using z2
  have e1 : (bl p.key).length = p.key.size := Array.length_toList
  have e2 : (bl p.val).length = p.val.size := Array.length_toList
  show (showL p).toArray.size ≤ _
  rw [List.size_toArray]
  unfold showL
  repeat' split
  all_goals (simp only [List.length_append, List.length_cons, List.length_nil, e1, e2]; omega)
theorem id_size (d : I) (hd : d.In) : (toBA (idL d)).size ≤ 400 := by
  have hn := hd.n
  have hl := hd.l
  have hs := hd.s
  have len : ∀ k : Int, 0 ≤ k → k < 4294967296 → (Lib.itoa k).length ≤ 21 := fun k h0 h1 => by
    have := it_size k (by omega) (by omega)
    simpa [toBA, ByteArray.size] using this
  have y1 := len d.n (by omega) (by omega)
  have y2 := len d.l (by omega) (by omega)
  have y3 := len d.s (by omega) (by omega)
  have g0 := hd.g0
  have g1 := hd.g1
  have g2 := hd.g2
  have i0 := hd.i0
  have i1 := hd.i1
  have i2 := hd.i2
  have z0 := len d.g0 (by omega) (by omega)
  have z1 := len d.g1 (by omega) (by omega)
  have z2 := len d.g2 (by omega) (by omega)
  have z3 := len d.i0 (by omega) (by omega)
  have z4 := len d.i1 (by omega) (by omega)
  have z5 := len d.i2 (by omega) (by omega)
  have hst : ((d.st.take d.d.toNat).flatMap stL).length ≤ 160 := by
    have : ∀ k : Nat, ((d.st.take k).flatMap stL).length ≤ 160 := fun k => by
      rcases k with _ | _ | _ | k <;> simp [I.st, stL] <;> omega
    exact this _
  show (idL d).toArray.size ≤ _
  rw [List.size_toArray]
  unfold idL
  simp only [List.length_append, List.length_cons, List.length_nil]
  omega
theorem c_eShow (e : En) (hi : EvIn e.er) (hl : e.ps.length ≤ 1000) : ReadsT 15 #[.agg e.row.toArray] (fun m => EnM m e) (.string (toBA (evL e.er))) := by
  intro w m hT hm he
  have hid : e.id.In := hi.id
  have hsi := id_size e.id hid
  have hvn : 0 ≤ e.vn ∧ e.vn < 256 := hi.vn
  have hvl : 0 ≤ e.vl ∧ e.vl < 65536 := hi.vl
  have C : Ctx [] m w w [] m [] := Ctx.start (F := []) rfl (by simp) (fun a v h => ⟨hm a v h, by simp⟩)
  refine x_eShow _ _ _ _ _ _ _ _ _ _ _ _ _ _ _ _ _ _ _ _ _ _ w _ ?_
  by_cases h2 : e.kd = 2
  · rw [if_pos (by simpa using h2)]
    intro w51 L52 h51 g51
    rw [w_i64 (n := e.vn) (by omega) (by omega), w_i64 (n := e.vl) (by omega) (by omega)]
    have hps := pair_size e.vn e.vl (by omega) (by omega)
    refine ctx_givesT (C.hidL h51 g51) hT (c_pair e.vn e.vl (by omega) (by omega)) fun w54 k54 C => ⟨_, rfl, k54, by omega, ?_, ctx_bel C⟩
    have e1 : ByteArray.mk #[OfNat.ofNat 75, OfNat.ofNat 105, OfNat.ofNat 108, OfNat.ofNat 108, OfNat.ofNat 32] ++ toBA (Lib.itoa e.vn ++ [46] ++ Lib.itoa e.vl) = toBA (evL e.er) := bl_ext (by
      rw [bl_toBA, evL, if_neg (show ¬ e.er.kd = 0 by show ¬ e.kd = 0; omega), if_neg (show ¬ e.er.kd = 3 by show ¬ e.kd = 3; omega), if_neg (show ¬ e.er.kd = 1 by show ¬ e.kd = 1; omega), if_pos (show e.er.kd = 2 from h2)]
      simp [bl_app, bl_toBA]; rfl)
    rw [e1]
  rw [if_neg (by simpa using h2)]
  by_cases h1 : e.kd = 1
  · rw [if_pos (by simpa using h1)]
    intro w46 L47 h46 g46
    refine ctx_givesT (C.hidL h46 g46) hT (c_ename e.id hid) fun w49 k49 C => ⟨_, rfl, k49, by omega, ?_, ctx_bel C⟩
    have e1 : ByteArray.mk #[OfNat.ofNat 66, OfNat.ofNat 97, OfNat.ofNat 99, OfNat.ofNat 107, OfNat.ofNat 32] ++ toBA (idL e.id) = toBA (evL e.er) := bl_ext (by
      rw [bl_toBA, evL, if_neg (show ¬ e.er.kd = 0 by show ¬ e.kd = 0; omega), if_neg (show ¬ e.er.kd = 3 by show ¬ e.kd = 3; omega), if_pos (show e.er.kd = 1 from h1)]
      simp [bl_app, bl_toBA]; rfl)
    rw [e1]
  rw [if_neg (by simpa using h1)]
  by_cases h3 : e.kd = 3
  · rw [if_pos (by simpa using h3)]
    have h0 : ¬ e.kd = 0 := by omega
    intro w24 L25 h24 g24
    refine ctx_givesT (C.hidL h24 g24) hT (c_ename e.id hid) fun w27 k27 C => ⟨_, rfl, k27, by omega, ?_⟩
    refine ⟨fun s i w' L' => ∃ j : Nat, i = j ∧ j ≤ e.ps.length ∧ s.data.toList = [67, 104, 101, 99, 107, 32] ++ idL e.id ++ (e.ps.take j).flatMap (fun p => 32 :: showL p) ∧ s.size ≤ 1000 + 600000000000002 * j ∧ Ctx [] m w w' L' m [], fun _ i _ => (e.ps.length - i).toNat, ⟨0, rfl, by omega, ?_, ?_, C⟩, ?_⟩
    · simp [bl_app, bl_toBA]
    · rw [ByteArray.size_append]
      have : (ByteArray.mk #[OfNat.ofNat 67, OfNat.ofNat 104, OfNat.ofNat 101, OfNat.ofNat 99, OfNat.ofNat 107, OfNat.ofNat 32]).size = 6 := rfl
      omega
    clear C
    rintro s i w33 L34 _ ⟨j, rfl, hj, hs1, hs2, D⟩
    by_cases hjl : j < e.ps.length
    rotate_left
    · rw [if_neg (by simpa using hjl)]
      refine ⟨?_, ctx_bel D⟩
      have : j = e.ps.length := by omega
      rw [this, List.take_length] at hs1
      have e1 : s = toBA (evL e.er) := bl_ext (by rw [hs1, bl_toBA]; show _ = evL e.er; rw [evL, if_neg (show ¬ e.er.kd = 0 from h0), if_pos (show e.er.kd = 3 from h3)]; rfl)
      rw [e1]
    rw [if_pos (by simpa using hjl)]
    obtain ⟨a, ha, hc⟩ := he.p.elem pt_len hjl
    have ha : e.pq.1 = some a := ha
    have hpj := hi.ps _ (List.getElem_mem hjl)
    have hsz := show_size _ hpj
    have hnl := D.cellsL hc
    refine ⟨by omega, by simpa using hjl, ?_⟩
    rw [ha, onSome_some]
    refine ⟨_, _, _, _, _, by rw [Int.toNat_natCast]; exact D.cells hc, by simpa using hnl, fun w41 L42 h41 g41 => ?_⟩
    replace D := D.hidL h41 g41
    refine ctx_givesT D hT (c_Show e.ps[j] hpj) fun w44 k44 D => ⟨_, rfl, k44, by omega, ?_, rfl, ?_, ?_⟩
    · rw [ByteArray.size_append]
      have : (ByteArray.mk #[OfNat.ofNat 32]).size = 1 := rfl
      omega
    · have e : IntKind.wrap .i64 ((j : Int) + 1) = ((j + 1 : Nat) : Int) := by rw [w_i64 (by omega) (by omega)]; omega
      refine ⟨j + 1, e, hjl, ?_, ?_, D⟩
      · rw [List.take_succ_eq_append_getElem hjl, List.flatMap_append, bl_app, bl_app, hs1, bl_toBA]
        simp
      · rw [ByteArray.size_append, ByteArray.size_append]
        have : (ByteArray.mk #[OfNat.ofNat 32]).size = 1 := rfl
        omega
    · have e1 : IntKind.wrap .i64 ((j : Int) + 1) = ((j + 1 : Nat) : Int) := by rw [w_i64 (by omega) (by omega)]; omega
      rw [e1]; exact Nat.le_of_eq (by show ((e.ps.length : Int) - ((j + 1 : Nat) : Int)).toNat + 1 = ((e.ps.length : Int) - (j : Int)).toNat; omega)
  rw [if_neg (by simpa using h3)]
  by_cases h0 : e.kd = 0
  · rw [if_pos (by simpa using h0)]
    intro w24 L25 h24 g24
    refine ctx_givesT (C.hidL h24 g24) hT (c_ename e.id hid) fun w27 k27 C => ⟨_, rfl, k27, by omega, ?_⟩
    refine ⟨fun s i w' L' => ∃ j : Nat, i = j ∧ j ≤ e.ps.length ∧ s.data.toList = [67, 97, 108, 108, 32] ++ idL e.id ++ (e.ps.take j).flatMap (fun p => 32 :: showL p) ∧ s.size ≤ 1000 + 600000000000002 * j ∧ Ctx [] m w w' L' m [], fun _ i _ => (e.ps.length - i).toNat, ⟨0, rfl, by omega, ?_, ?_, C⟩, ?_⟩
    · simp [bl_app, bl_toBA]
    · rw [ByteArray.size_append]
      have : (ByteArray.mk #[OfNat.ofNat 67, OfNat.ofNat 97, OfNat.ofNat 108, OfNat.ofNat 108, OfNat.ofNat 32]).size = 5 := rfl
      omega
    clear C
    rintro s i w33 L34 _ ⟨j, rfl, hj, hs1, hs2, D⟩
    by_cases hjl : j < e.ps.length
    rotate_left
    · rw [if_neg (by simpa using hjl)]
      refine ⟨?_, ctx_bel D⟩
      have : j = e.ps.length := by omega
      rw [this, List.take_length] at hs1
      have e1 : s = toBA (evL e.er) := bl_ext (by rw [hs1, bl_toBA]; show _ = evL e.er; rw [evL, if_pos (show e.er.kd = 0 from h0)]; rfl)
      rw [e1]
    rw [if_pos (by simpa using hjl)]
    obtain ⟨a, ha, hc⟩ := he.p.elem pt_len hjl
    have ha : e.pq.1 = some a := ha
    have hpj := hi.ps _ (List.getElem_mem hjl)
    have hsz := show_size _ hpj
    have hnl := D.cellsL hc
    refine ⟨by omega, by simpa using hjl, ?_⟩
    rw [ha, onSome_some]
    refine ⟨_, _, _, _, _, by rw [Int.toNat_natCast]; exact D.cells hc, by simpa using hnl, fun w41 L42 h41 g41 => ?_⟩
    replace D := D.hidL h41 g41
    refine ctx_givesT D hT (c_Show e.ps[j] hpj) fun w44 k44 D => ⟨_, rfl, k44, by omega, ?_, rfl, ?_, ?_⟩
    · rw [ByteArray.size_append]
      have : (ByteArray.mk #[OfNat.ofNat 32]).size = 1 := rfl
      omega
    · have e : IntKind.wrap .i64 ((j : Int) + 1) = ((j + 1 : Nat) : Int) := by rw [w_i64 (by omega) (by omega)]; omega
      refine ⟨j + 1, e, hjl, ?_, ?_, D⟩
      · rw [List.take_succ_eq_append_getElem hjl, List.flatMap_append, bl_app, bl_app, hs1, bl_toBA]
        simp
      · rw [ByteArray.size_append, ByteArray.size_append]
        have : (ByteArray.mk #[OfNat.ofNat 32]).size = 1 := rfl
        omega
    · have e1 : IntKind.wrap .i64 ((j : Int) + 1) = ((j + 1 : Nat) : Int) := by rw [w_i64 (by omega) (by omega)]; omega
      rw [e1]; exact Nat.le_of_eq (by show ((e.ps.length : Int) - ((j + 1 : Nat) : Int)).toNat + 1 = ((e.ps.length : Int) - (j : Int)).toNat; omega)
  rw [if_neg (by simpa using h0)]
  intro w1 h1w
  refine ⟨?_, ctx_bel (C.hid0 h1w)⟩
  have : toBA (evL e.er) = ByteArray.mk #[] := by rw [evL, if_neg (show ¬ e.er.kd = 0 from h0), if_neg (show ¬ e.er.kd = 3 from h3), if_neg (show ¬ e.er.kd = 1 from h1), if_neg (show ¬ e.er.kd = 2 from h2)]; rfl
  rw [this]
theorem c_r5Show (e : En) (hi : EvIn e.er) (hl : e.ps.length ≤ 1000) : ReadsT 16 #[.agg e.row.toArray] (fun m => EnM m e) (.string (toBA (evL e.er))) := by
  intro w m hT hm he
  have hid : e.id.In := hi.id
  have hsi := id_size e.id hid
  have hvn : 0 ≤ e.vn ∧ e.vn < 256 := hi.vn
  have hvl : 0 ≤ e.vl ∧ e.vl < 65536 := hi.vl
  have C : Ctx [] m w w [] m [] := Ctx.start (F := []) rfl (by simp) (fun a v h => ⟨hm a v h, by simp⟩)
  refine x_r5Show _ _ _ _ _ _ _ _ _ _ _ _ _ _ _ _ _ _ _ _ _ _ w _ ?_
  have o32 : (ByteArray.mk #[OfNat.ofNat 46]).size = 1 := rfl
  by_cases h0 : e.kd = 0
  · rw [if_pos (by simpa using h0), if_pos (by simpa using h0)]
    intro w69 L70 h69 g69
    refine (C.hidL h69 g69).gives (c_ShowID e.id hid) fun w72 k72 C => ⟨_, rfl, k72, by omega, ?_⟩
    rw [if_neg (by simp; omega)]
    refine ⟨fun s i w' L' => ∃ j : Nat, i = j ∧ j ≤ e.ps.length ∧ s.data.toList = [67, 97, 108, 108, 32] ++ idL e.id ++ (e.ps.take j).flatMap (fun p => 32 :: showL p) ∧ s.size ≤ 1000 + 600000000000002 * j ∧ Ctx [] m w w' L' m [], fun _ i _ => (e.ps.length - i).toNat, ⟨0, rfl, by omega, ?_, ?_, C⟩, ?_⟩
    · simp [bl_app, bl_toBA]
    · rw [ByteArray.size_append]
      have : (ByteArray.mk #[OfNat.ofNat 67, OfNat.ofNat 97, OfNat.ofNat 108, OfNat.ofNat 108, OfNat.ofNat 32]).size = 5 := rfl
      omega
    clear C
    rintro s i w33 L34 _ ⟨j, rfl, hj, hs1, hs2, D⟩
    by_cases hjl : j < e.ps.length
    rotate_left
    · rw [if_neg (by simpa using hjl)]
      refine ⟨?_, ctx_bel D⟩
      have : j = e.ps.length := by omega
      rw [this, List.take_length] at hs1
      have e1 : s = toBA (evL e.er) := bl_ext (by rw [hs1, bl_toBA]; show _ = evL e.er; rw [evL, if_pos (show e.er.kd = 0 from h0)]; rfl)
      rw [e1]
    rw [if_pos (by simpa using hjl)]
    obtain ⟨a, ha, hc⟩ := he.p.elem pt_len hjl
    have ha : e.pq.1 = some a := ha
    have hpj := hi.ps _ (List.getElem_mem hjl)
    have hsz := show_size _ hpj
    have hnl := D.cellsL hc
    refine ⟨by omega, by omega, by simpa using hjl, ?_⟩
    rw [ha, onSome_some]
    refine ⟨_, _, _, _, _, by rw [Int.toNat_natCast]; exact D.cells hc, by simpa using hnl, ?_⟩
    refine D.gives (c_rShow e.ps[j] hpj) fun w44 k44 D => ⟨_, rfl, k44, ?_, rfl, ?_, ?_⟩
    · rw [ByteArray.size_append]
      have : (ByteArray.mk #[OfNat.ofNat 32]).size = 1 := rfl
      omega
    · have e : IntKind.wrap .i64 ((j : Int) + 1) = ((j + 1 : Nat) : Int) := by rw [w_i64 (by omega) (by omega)]; omega
      refine ⟨j + 1, e, hjl, ?_, ?_, D⟩
      · rw [List.take_succ_eq_append_getElem hjl, List.flatMap_append, bl_app, bl_app, hs1, bl_toBA]
        simp
      · rw [ByteArray.size_append, ByteArray.size_append]
        have : (ByteArray.mk #[OfNat.ofNat 32]).size = 1 := rfl
        omega
    · have e1 : IntKind.wrap .i64 ((j : Int) + 1) = ((j + 1 : Nat) : Int) := by rw [w_i64 (by omega) (by omega)]; omega
      rw [e1]; exact Nat.le_of_eq (by show ((e.ps.length : Int) - ((j + 1 : Nat) : Int)).toNat + 1 = ((e.ps.length : Int) - (j : Int)).toNat; omega)
  rw [if_neg (by simpa using h0)]
  by_cases h3 : e.kd = 3
  · rw [if_pos (by simpa using h3)]
    intro w16 L17 h16 g16
    refine (C.hidL h16 g16).gives (c_ShowID e.id hid) fun w19 k19 C => ⟨_, rfl, k19, by omega, ?_⟩
    rw [if_pos (by simpa using h3)]
    refine C.gives (c_ShowID e.id hid) fun w37 k37 C => ⟨_, rfl, k37, by omega, ?_⟩
    refine ⟨fun s i w' L' => ∃ j : Nat, i = j ∧ j ≤ e.ps.length ∧ s.data.toList = [67, 104, 101, 99, 107, 32] ++ idL e.id ++ (e.ps.take j).flatMap (fun p => 32 :: showL p) ∧ s.size ≤ 1000 + 600000000000002 * j ∧ Ctx [] m w w' L' m [], fun _ i _ => (e.ps.length - i).toNat, ⟨0, rfl, by omega, ?_, ?_, C⟩, ?_⟩
    · simp [bl_app, bl_toBA]
    · rw [ByteArray.size_append]
      have : (ByteArray.mk #[OfNat.ofNat 67, OfNat.ofNat 104, OfNat.ofNat 101, OfNat.ofNat 99, OfNat.ofNat 107, OfNat.ofNat 32]).size = 6 := rfl
      omega
    clear C
    rintro s i w33 L34 _ ⟨j, rfl, hj, hs1, hs2, D⟩
    by_cases hjl : j < e.ps.length
    rotate_left
    · rw [if_neg (by simpa using hjl)]
      refine ⟨?_, ctx_bel D⟩
      have : j = e.ps.length := by omega
      rw [this, List.take_length] at hs1
      have e1 : s = toBA (evL e.er) := bl_ext (by rw [hs1, bl_toBA]; show _ = evL e.er; rw [evL, if_neg (show ¬ e.er.kd = 0 from h0), if_pos (show e.er.kd = 3 from h3)]; rfl)
      rw [e1]
    rw [if_pos (by simpa using hjl)]
    obtain ⟨a, ha, hc⟩ := he.p.elem pt_len hjl
    have ha : e.pq.1 = some a := ha
    have hpj := hi.ps _ (List.getElem_mem hjl)
    have hsz := show_size _ hpj
    have hnl := D.cellsL hc
    refine ⟨by omega, by omega, by simpa using hjl, ?_⟩
    rw [ha, onSome_some]
    refine ⟨_, _, _, _, _, by rw [Int.toNat_natCast]; exact D.cells hc, by simpa using hnl, ?_⟩
    refine D.gives (c_rShow e.ps[j] hpj) fun w44 k44 D => ⟨_, rfl, k44, ?_, rfl, ?_, ?_⟩
    · rw [ByteArray.size_append]
      have : (ByteArray.mk #[OfNat.ofNat 32]).size = 1 := rfl
      omega
    · have e : IntKind.wrap .i64 ((j : Int) + 1) = ((j + 1 : Nat) : Int) := by rw [w_i64 (by omega) (by omega)]; omega
      refine ⟨j + 1, e, hjl, ?_, ?_, D⟩
      · rw [List.take_succ_eq_append_getElem hjl, List.flatMap_append, bl_app, bl_app, hs1, bl_toBA]
        simp
      · rw [ByteArray.size_append, ByteArray.size_append]
        have : (ByteArray.mk #[OfNat.ofNat 32]).size = 1 := rfl
        omega
    · have e1 : IntKind.wrap .i64 ((j : Int) + 1) = ((j + 1 : Nat) : Int) := by rw [w_i64 (by omega) (by omega)]; omega
      rw [e1]; exact Nat.le_of_eq (by show ((e.ps.length : Int) - ((j + 1 : Nat) : Int)).toNat + 1 = ((e.ps.length : Int) - (j : Int)).toNat; omega)
  rw [if_neg (by simpa using h3)]
  by_cases h1 : e.kd = 1
  · rw [if_pos (by simpa using h1)]
    intro w11 L12 h11 g11
    refine (C.hidL h11 g11).gives (c_ShowID e.id hid) fun w14 k14 C => ⟨_, rfl, k14, by omega, ?_, ctx_bel C⟩
    have e1 : ByteArray.mk #[OfNat.ofNat 66, OfNat.ofNat 97, OfNat.ofNat 99, OfNat.ofNat 107, OfNat.ofNat 32] ++ toBA (idL e.id) = toBA (evL e.er) := bl_ext (by
      rw [bl_toBA, evL, if_neg (show ¬ e.er.kd = 0 from h0), if_neg (show ¬ e.er.kd = 3 from h3), if_pos (show e.er.kd = 1 from h1)]
      simp [bl_app, bl_toBA]; rfl)
    rw [e1]
  rw [if_neg (by simpa using h1)]
  by_cases h2 : e.kd = 2
  · rw [if_pos (by simpa using h2)]
    refine ⟨[], facts_nil _ _, fun w3 L4 hw3 g3 => ?_⟩
    rw [w_i64 (n := e.vn) (by omega) (by omega), w_i64 (n := e.vl) (by omega) (by omega)]
    have z0 := it_size e.vn (by omega) (by omega)
    have z1 := it_size e.vl (by omega) (by omega)
    have k5 : (ByteArray.mk #[OfNat.ofNat 75, OfNat.ofNat 105, OfNat.ofNat 108, OfNat.ofNat 108, OfNat.ofNat 32]).size = 5 := rfl
    refine (C.hidL hw3 g3).gives (c_Digits _ e.vn (Nat.le_refl _) (by omega) (by omega)) fun w6 k6 C => ⟨_, rfl, k6, facts_nil _ _, by omega, ?_⟩
    simp only [ByteArray.size_append, o32, k5]
    refine ⟨by omega, ?_⟩
    refine C.gives (c_Digits _ e.vl (Nat.le_refl _) (by omega) (by omega)) fun w9 k9 C => ⟨_, rfl, k9, facts_nil _ _, by omega, ?_, ctx_bel C⟩
    have e1 : ByteArray.mk #[OfNat.ofNat 75, OfNat.ofNat 105, OfNat.ofNat 108, OfNat.ofNat 108, OfNat.ofNat 32] ++ itB e.vn ++ ByteArray.mk #[OfNat.ofNat 46] ++ itB e.vl = toBA (evL e.er) := bl_ext (by
      rw [bl_toBA, evL, if_neg (show ¬ e.er.kd = 0 from h0), if_neg (show ¬ e.er.kd = 3 from h3), if_neg (show ¬ e.er.kd = 1 from h1), if_pos (show e.er.kd = 2 from h2)]
      simp [bl_app, bl_toBA]; rfl)
    rw [e1]
  rw [if_neg (by simpa using h2)]
  intro w1 h1w
  refine ⟨?_, ctx_bel (C.hid0 h1w)⟩
  have : toBA (evL e.er) = ByteArray.mk #[] := by rw [evL, if_neg (show ¬ e.er.kd = 0 from h0), if_neg (show ¬ e.er.kd = 3 from h3), if_neg (show ¬ e.er.kd = 1 from h1), if_neg (show ¬ e.er.kd = 2 from h2)]; rfl
  rw [this]
/-! ### what must come -/
def kPt : Pt := ⟨0, 3, ByteArray.mk #[97], ByteArray.mk #[], 5⟩
theorem kIn : PtIn kPt := by constructor <;> simp [kPt, ByteArray.size]
def kEn (q : Sl) : En := ⟨0, ⟨1, 1, 5, 0, 0, 0, 0, 0, 0, 0⟩, 0, q, [kPt], 0, ByteArray.mk #[], (none, 0), [], 0, 0⟩
theorem kEvIn0 : EvIn (kEn (none, 0)).er := by
  constructor
  · exact ⟨by decide, by decide⟩
  · constructor <;> exact ⟨by decide, by decide⟩
  · exact ⟨by decide, by decide⟩
  · intro p hp; obtain rfl : p = kPt := by simpa [kEn, En.er] using hp
    exact kIn
  · exact ⟨by decide, by decide⟩
  · show (0 : Nat) ≤ _; decide
  · exact ⟨by decide, by decide⟩
  · exact ⟨by decide, by decide⟩
theorem kEvIn (q : Sl) : EvIn (kEn q).er := kEvIn0
theorem k_show (q : Sl) : evL (kEn q).er = [67, 97, 108, 108, 32, 49, 46, 49, 47, 53, 32, 48, 58, 84, 97, 107, 101, 40, 97, 45, 53, 41] := by
  have h0 : Lib.itoa 0 = [48] := itoa_small 0 (by omega)
  have h1 : Lib.itoa 1 = [49] := itoa_small 1 (by omega)
  have h5 : Lib.itoa 5 = [53] := itoa_small 5 (by omega)
  rw [evL, if_pos (show (kEn q).er.kd = 0 from rfl)]
  show [67, 97, 108, 108, 32] ++ (Lib.itoa 1 ++ [46] ++ Lib.itoa 1 ++ [47] ++ Lib.itoa 5 ++ []) ++ [kPt].flatMap (fun p => 32 :: showL p) = _
  rw [h1, h5]
  simp only [List.flatMap_cons, List.flatMap_nil, List.append_nil]
  unfold showL
  show _ ++ (32 :: (Lib.itoa 0 ++ _ ++ (if (3 : Int) = 0 then _ else if (3 : Int) = 1 then _ else if (3 : Int) = 2 then _ else _))) = _
  rw [h0, if_neg (by decide), if_neg (by decide), if_neg (by decide)]
  simp [kPt, h5, bl]
theorem k_right0 : (kEn (none, 0)).er.right 0 = true := by decide +kernel
theorem k_right1 : (kEn (none, 0)).er.right 1 = false := by decide +kernel
theorem c_knows {m0 : Mem} {w0 w : World} {L : List Nat} {m : Mem} {As : List Asn} (C : Ctx [] m0 w0 w L m As) (hT : Tab w0) {R : Ending → World → Prop} (k : ∀ w', Kept L w w' → Ctx [] m0 w0 w' L m As → R (.returned (.bool true)) w') : CallX Tryd.prog 7 #[] w R := by
  have main : ∀ w : World, Tab w → Calls Tryd.prog 7 #[] w fun e w' => e = .returned (.bool true) ∧ Bel w.heap.size w w' := by
    intro w hT
    refine x_knows w _ ?_
    obtain ⟨C, -⟩ := (lawStart w).newShare kPt.row 56 (0, 0)
    have hM : EnM ((memOf w).plus w.heap.size kPt.row) (kEn (some ⟨w.heap.size, 0, none⟩, 1)) := by
      refine ⟨?_, .nil .., by show 1 ≤ 1000000; decide, by show 0 ≤ 1000000; decide⟩
      have : MSrc ((memOf w).plus w.heap.size kPt.row) 5 (.slice (some ⟨w.heap.size, 0, none⟩) 1 1) 1 kPt.row := MSrc.mk rfl (fun a ha => by injection ha with ha; subst ha; exact Mem.plus_cells _ _ _ _ _ fun j v hj => by rw [Nat.zero_add]; exact hj) (fun h => by cases h)
      simpa [kEn] using this
    generalize hm1 : (memOf w).plus w.heap.size kPt.row = m1 at C hM
    clear hm1
    generalize hq : (some (⟨w.heap.size, 0, none⟩ : Addr), 1) = q at hM
    have hq1 : some (⟨w.heap.size, 0, none⟩ : Addr) = q.1 := by rw [← hq]
    have hq2 : 1 = q.2 := by rw [← hq]
    have hal : w.alloc (.cells kPt.row.toArray 56 (0, 0)) = w.alloc (.cells #[(.int .u8 0), (.int .u8 3), (.string (ByteArray.mk #[OfNat.ofNat 97])), (.string (ByteArray.mk #[])), (.int .i64 5)] 56) := rfl
    refine ⟨[], facts_nil _ _, fun w2 L3 h2 g2 => ?_⟩
    replace C := C.hidL h2 g2
    have hrow : ∀ q : Sl, (#[(.int .u8 0), (.int .u8 1), (.int .u16 1), (.int .u32 5), (.int .u8 0), (.int .u8 0), (.int .u8 0), (.int .u8 0), (.int .u8 0), (.int .u8 0), (.int .u8 0), (.int .u32 0), (.slice q.1 1 q.2), (.int .u8 0), (.string (ByteArray.mk #[])), (.slice none 0 0), (.int .u8 0), (.int .u16 0)] : Array Value) = (kEn q).row.toArray := fun q => rfl
    rw [show (Value.slice (some (⟨w.heap.size, 0, none⟩ : Addr)) 1 1) = Value.slice q.1 1 q.2 by rw [hq1, ← hq2]]
    refine ctx_reads C hT (c_eShow (kEn q) (kEvIn q) (by show 1 ≤ 1000; decide)) hM fun w5 k5 C => ⟨_, rfl, k5, facts_nil _ _, [], facts_nil _ _, (fun _ h => h), ?_⟩
    rw [k_show, if_pos (by exact beq_iff_eq.2 (beq_self_eq_true (toBA [67, 97, 108, 108, 32, 49, 46, 49, 47, 53, 32, 48, 58, 84, 97, 107, 101, 40, 97, 45, 53, 41]).toList))]
    refine (c_eRight (kEn q) 0 (kEvIn q)).call (As := []) C hM fun _ m2 w14 hk hm2 _ C => ⟨_, rfl, hk, facts_nil _ _, [], facts_nil _ _, (fun _ h => h), ?_⟩
    replace hM := hM.mono hm2
    rw [show (kEn q).er.right 0 = true from k_right0, if_pos (by rfl)]
    refine (c_eRight (kEn q) 1 (kEvIn q)).call (As := []) C hM fun _ m3 w21 hk hm3 _ C => ⟨_, rfl, hk, facts_nil _ _, [], facts_nil _ _, (fun _ h => h), ?_⟩
    replace hM := hM.mono hm3
    rw [show (kEn q).er.right 1 = false from k_right1, if_pos (by rfl)]
    refine (c_eClone (kEn q)).call (As := []) C hM fun f m4 w26 hk hm4 hf C => ⟨_, _, _, _, _, _, _, _, _, _, _, _, _, _, _, _, _, _, _, _, _, _, rfl, hk, facts_nil _ _, ?_⟩
    refine (c_eSame (kEn q) f).call (As := []) C ⟨hM.mono hm4, hf.1⟩ fun _ m5 w50 hk hm5 _ C => ⟨_, rfl, hk, facts_nil _ _, ?_, ctx_bel C⟩
    rw [hf.2, decide_eq_true rfl]; rfl
  exact ⟨(main w (tab_bel hT (ctx_bel C))).mono fun e w' ⟨he, hb⟩ => by subst he; exact k w' (C.kept hb) (C.below hb)⟩
end Go.Proofs
