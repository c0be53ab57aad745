import Derived.Test.YtmfmihkjkgifiaaU10d
set_option linter.unusedVariables false
set_option linter.unusedSimpArgs false
set_option maxRecDepth 10000
namespace Go.Proofs
open Go X RowKit
/-! ### what is told -/
def dueB (again now : Int) (s : Sr) : Bool := (!s.told) || (decide (now ≥ s.at_) && decide ((IntKind.wrap .u64 ((IntKind.wrap .u64 now) - (IntKind.wrap .u64 s.at_))) ≥ (IntKind.wrap .u64 again)))
theorem c_due (s : Sr) (now again : Int) : Gives Try.prog 32 #[.agg #[.int .u64 s.seq, s.b.V, .bool s.told, .int .i64 s.at_], .int .i64 now, .int .i64 again] (.bool (dueB again now s)) :=
  fun w => x_link_sent_due _ _ _ _ _ _ _ _ w _ fun w1 h1 => ⟨rfl, hid_below h1 (by simp) (Nat.le_refl _)⟩
def tellB (again now : Int) (s : Sr) : Sr := if dueB again now s = true then { s with told := true, at_ := now } else s
/-- a packet's content -/
structure Pa where (fn fl tn tl seq ack : Int) (has : Bool) (bs : List UInt8)
def Pk.er (p : Pk) : Pa := ⟨p.fn, p.fl, p.tn, p.tl, p.seq, p.ack, p.has, p.b.bs⟩
theorem pk_len (p : Pk) : p.row.length = 8 := rfl
theorem pk_one (p : Pk) : ∀ u ∈ p.row, oneC u = true := by
  intro u h
  simp only [Pk.row, List.mem_cons, List.not_mem_nil, or_false] at h
  rcases h with rfl | rfl | rfl | rfl | rfl | rfl | rfl | rfl <;> rfl
abbrev pksA (q : Option Addr) (c : Nat) (l : List Pk) : Asn := slA (.slice q l.length c) l.length (l.flatMap Pk.row) 53 8
def Lk.pk (x : Lk) (s : Sr) : Pa := ⟨x.mn, x.ml, x.pn, x.pl, s.seq, x.want, true, s.b.bs⟩
def Lk.dues (x : Lk) (now : Int) (i : Nat) : List Pa := ((x.W.take i).filter (dueB x.again now)).map x.pk
def Lk.outs (x : Lk) (now : Int) : List Pa := if ((x.dues now 8).isEmpty && x.owed) = true then [⟨x.mn, x.ml, x.pn, x.pl, 0, x.want, false, []⟩] else x.dues now 8
def Wi (f : Sr → Sr) (l : List Sr) (i : Nat) : List Sr := (l.take i).map f ++ l.drop i
def Lk.told (x : Lk) (now : Int) : Lk := { x with W := Wi (tellB x.again now) x.W 8, owed := false }
theorem Wi_len (f : Sr → Sr) (l : List Sr) (i : Nat) : (Wi f l i).length = l.length := by simp [Wi]; omega
theorem Wi_succ (f : Sr → Sr) (l : List Sr) (i : Nat) (h : i < l.length) : Wi f l (i + 1) = (Wi f l i).set i (f l[i]) := by
  unfold Wi
  rw [List.drop_eq_getElem_cons h, List.take_succ_eq_append_getElem h, List.map_append, List.set_append_right _ _ (by simp; omega)]
  have : i - ((l.take i).map f).length = 0 := by simp; omega
  rw [this]; simp
  rw [List.drop_eq_getElem_cons h]; rfl
theorem Wi_get (f : Sr → Sr) (l : List Sr) (i : Nat) (h : i < l.length) (h' : i < (Wi f l i).length) : (Wi f l i)[i] = l[i] := by
  have e : (Wi f l i)[i]? = l[i]? := by
    unfold Wi
    rw [List.getElem?_append_right (by simp; omega)]
    simp [Nat.min_eq_left (Nat.le_of_lt h)]
  rw [List.getElem?_eq_getElem h', List.getElem?_eq_getElem h] at e
  exact Option.some.inj e
theorem Wi_min (f : Sr → Sr) (l : List Sr) (i : Nat) : Wi f l (min i l.length) = Wi f l i := by
  unfold Wi
  rcases Nat.le_total i l.length with h | h
  · rw [Nat.min_eq_left h]
  · rw [Nat.min_eq_right h, List.take_of_length_le h, List.drop_eq_nil_of_le h, List.take_length, List.drop_length]
theorem Wi_mem {f : Sr → Sr} {l : List Sr} {i : Nat} {s : Sr} (hf : ∀ s, (f s).b = s.b) (h : s ∈ Wi f l i) : ∃ t ∈ l, s.b = t.b := by
  rcases List.mem_append.1 h with h | h
  · obtain ⟨t, ht, rfl⟩ := List.mem_map.1 h; exact ⟨t, List.mem_of_mem_take ht, hf t⟩
  · exact ⟨s, List.mem_of_mem_drop h, rfl⟩
theorem tellB_b (again now : Int) (s : Sr) : (tellB again now s).b = s.b := by unfold tellB; split <;> rfl
theorem dues_succ (x : Lk) (now : Int) (i : Nat) (h : i < x.W.length) : x.dues now (i + 1) = x.dues now i ++ (if dueB x.again now x.W[i] = true then [x.pk x.W[i]] else []) := by
  unfold Lk.dues
  rw [List.take_succ_eq_append_getElem h, List.filter_append, List.map_append]
  congr 1
  by_cases hd : dueB x.again now x.W[i] = true <;> simp [hd]
theorem dues_min (x : Lk) (now : Int) (i : Nat) : x.dues now (min i x.W.length) = x.dues now i := by
  unfold Lk.dues
  rcases Nat.le_total i x.W.length with h | h
  · rw [Nat.min_eq_left h]
  · rw [Nat.min_eq_right h, List.take_of_length_le h, List.take_length]
theorem splice_one (l : List Value) (o : Nat) (v : Value) (h : o < l.length) : splice l o [v] = l.set o v := by
  simp only [splice, List.length_singleton]
  rw [List.set_eq_take_append_cons_drop, if_pos h]
  simp
/-- one cell of an owned slice is turned -/
theorem slSet {n c : Nat} {cs : List Value} {ty : TypeId} {sz : Nat} {F0 : List Nat} {m0 : Mem} {w0 w : World} {L : List Nat} {m : Mem} {As : List Asn} {a : Addr} (C : Ctx F0 m0 w0 w L m (slA (.slice (some a) n c) n cs ty sz :: As)) (j : Nat) (hj : j < cs.length) (v : Value) :
    a.spot = none ∧ World.there w a.block (a.off + j) 1 ∧ a.block ∉ L ∧ Ctx F0 m0 w0 (w.setCells a.block (a.off + j) [v]) L m (slA (.slice (some a) n c) n (cs.set j v) ty sz :: As) := by
  obtain ⟨q', cap', e, h2, h3, h4, h⟩ := C.slO
  injection e with e1 _ e2; subst e1; subst e2
  rcases h with ⟨rfl, _⟩ | ⟨b, pre, rest, e, hl, C'⟩
  · have : n = 0 := by omega
    subst this; simp at h2; subst h2; simp at hj
  injection e with e; subst e
  refine ⟨rfl, C'.there _ _ (by simp; omega), C'.blkAt.2, ?_⟩
  have C2 := C'.store (pre.length + j) [v] (by simp; omega)
  refine Ctx.slI (pre := pre) (rest := rest) ?_ (by rw [List.length_set]; exact h2) h3 h4 hl C2
  rw [splice_one _ _ _ (by simp; omega), List.append_assoc, List.append_assoc, List.set_append_right _ _ (by omega), List.set_append_left _ _ (by omega)]
  congr 3; omega
theorem rows_set (rs : List Sr) (i : Nat) (hi : i < rs.length) (r : Sr) (k : Nat) (hk : k < 4) (v : Value) (hr : r.row = (rs[i].row).set k v) : rows (rs.set i r) = (rows rs).set (i * 4 + k) v := by
  induction rs generalizing i with
  | nil => simp at hi
  | cons x rs ih =>
    cases i with
    | zero =>
      have e : rows (x :: rs) = x.row ++ rows rs := by simp [rows]
      have e2 : rows ((x :: rs).set 0 r) = r.row ++ rows rs := by simp [rows]
      rw [e, e2, List.set_append_left _ _ (by rw [row_len]; omega)]
      simp only [List.getElem_cons_zero] at hr
      rw [hr]; simp
    | succ i =>
      have e : rows (x :: rs) = x.row ++ rows rs := by simp [rows]
      have e2 : rows ((x :: rs).set (i + 1) r) = x.row ++ rows (rs.set i r) := by simp [rows]
      rw [e, e2, List.set_append_right _ _ (by rw [row_len]; omega), ih i (by simpa using hi) hr, row_len]
      congr 2; omega
theorem c_open (b : Nat) (x : Lk) (q : Option Addr) (n c : Nat) (hc : n ≤ c) (mv : Value) :
    Ctr Try.prog 31 #[.pointer (some ⟨b, 0, none⟩)] noMem [lkB b x (.slice q n c) mv] (fun _ : Unit => .slice q (min 8 n) (min 8 n)) (fun _ _ => True) (fun _ => [lkB b x (.slice q n c) mv]) := by
  refine Ctr.mk fun w F m C _ => x_link_Link_open _ w _ ?_
  have hcell : w.cell? ((⟨b, 0, none⟩ : Addr).add 7) = some (.slice q n c) := by rw [Addr.add_mid]; exact C.blkCell (j := 7) rfl
  have e : (if (8 : Int) < ((n : Nat) : Int) then (8 : Int) else ((n : Nat) : Int)) = ((min 8 n : Nat) : Int) := by split <;> omega
  refine ⟨q, n, c, hcell, q, n, c, hcell, ?_⟩
  rw [e, Int.toNat_natCast, cutA_zero]
  exact ⟨by omega, by omega, by omega, by omega, Ctr.ret () rfl trivial C⟩
theorem c_Out (b : Nat) (x : Lk) (now : Int) (hW : x.W.length ≤ 32) :
    Ctr Try.prog 16 #[.pointer (some ⟨b, 0, none⟩), .int .i64 now] (fun m => LkM m x) [lkA b x] (fun i : List Pk × Option Addr × Nat => .slice i.2.1 i.1.length i.2.2)
      (fun i m => i.1.map Pk.er = x.outs now ∧ (∀ p ∈ i.1, BrM m p.b) ∧ LkM m (x.told now)) (fun i => [lkA b (x.told now), pksA i.2.1 i.2.2 i.1]) := by
  refine Ctr.mk fun w F m C hx => x_link_Link_Out _ now w _ ?_
  refine (c_none b x).call C trivial fun _ m1 w2 hk hm _ C => ⟨_, rfl, hk.size, ?_⟩
  rw [if_neg (by simp)]
  obtain ⟨q, c, mb, C⟩ := lkO C
  have hcap := (Ctx.slCap C.swap).1
  refine ⟨[(⟨b, 0, none⟩, [.int .u8 x.mn, .int .u16 x.ml]), (⟨b, 2, none⟩, [.int .u8 x.pn, .int .u16 x.pl]), (⟨b, 6, none⟩, [.int .u64 x.want])], ?_, x.mn, x.ml, by simp [Addr.add_mid], x.pn, x.pl, by simp [Addr.add_mid], x.want, by simp [Addr.add_mid], fun w10 L11 h10 g10 => ?_⟩
  · exact C.blkFact 0 _ (fun j v e => by match j, e with | 0, e => exact e | 1, e => exact e) (C.blkFact 2 _ (fun j v e => by match j, e with | 0, e => exact e | 1, e => exact e) (C.blkFact1 6 _ rfl (facts_nil _ _)))
  replace C := C.hidL h10 g10
  refine (c_open b x q x.W.length c hcap _).call C trivial fun _ m2 w13 hk hm2 _ C => ⟨q, _, _, rfl, hk, ?_⟩
  have hx2 := (hx.mono hm).mono hm2
  have hmm := hm.le_trans hm2
  refine ⟨fun qo k kc n w' L' => ∃ (i : Nat) (out : List Pk) (m' : Mem), n = i ∧ k = out.length ∧ i ≤ min 8 x.W.length ∧ m2.le m' ∧ out.length ≤ i ∧ out.map Pk.er = x.dues now i ∧ (∀ p ∈ out, BrM m' p.b) ∧
    Ctx F m w w' L' m' [lkB b x (.slice q x.W.length c) (.map (some mb)), slA (.slice q x.W.length c) x.W.length (rows (Wi (tellB x.again now) x.W i)) 86 4, earlyA mb x.E, pksA qo kc out], fun _ _ _ n _ => (8 - n).toNat,
    ⟨0, [], m2, rfl, rfl, by omega, Mem.le_refl _, by simp, by simp [Lk.dues], by simp, ?_⟩, ?_⟩
  · have C2 := C.slNil (q := none) (ty := 53) (sz := 8)
    exact C2.rot
  rintro qo k kc n w23 L24 _ ⟨i, out, m', rfl, rfl, hi, hm', hol, hout, hbr, D⟩
  by_cases hlt : i < min 8 x.W.length
  · rw [if_pos (by simpa using hlt)]
    refine ⟨by omega, by omega, ?_⟩
    have hiW : i < x.W.length := by omega
    have hiW' : i < (Wi (tellB x.again now) x.W i).length := by rw [Wi_len]; exact hiW
    obtain ⟨a, rfl⟩ := slice_some D.swap (rows_ne hiW')
    rw [onSome_some]
    have hce := (D.swap.slCells.1 a rfl)
    have hcell := cells_elem row_len hce.1 i hiW'
    rw [Wi_get _ _ _ hiW hiW'] at hcell
    refine ⟨_, _, _, _, _, _, hcell, by rw [addr_block]; exact hce.2 (rows_ne hiW'), [(⟨b, 4, none⟩, [.int .i64 x.again])], D.blkFact1 4 _ rfl (facts_nil _ _), x.again, by simp [Addr.add_mid], fun w39 L40 h39 g39 => ?_⟩
    replace D := D.hidL h39 g39
    refine D.gives (c_due x.W[i] now x.again) fun w42 hk D => ⟨_, rfl, hk, ?_⟩
    have en : IntKind.wrap .i64 ((i : Int) + 1) = ((i + 1 : Nat) : Int) := by rw [w_i64 (by omega) (by omega)]; omega
    have hmeas : ((8 : Int) - ((i + 1 : Nat) : Int)).toNat + 1 ≤ ((8 : Int) - (i : Int)).toNat := by omega
    by_cases hdue : dueB x.again now x.W[i] = true
    rotate_left
    · rw [if_pos (by simpa using hdue), en]
      refine ⟨rfl, ⟨i + 1, out, m', rfl, rfl, by omega, hm', by omega, by rw [dues_succ _ _ _ hiW, if_neg hdue, List.append_nil]; exact hout, hbr, ?_⟩, hmeas⟩
      have e : Wi (tellB x.again now) x.W (i + 1) = Wi (tellB x.again now) x.W i := by
        rw [Wi_succ _ _ _ hiW]
        have : tellB x.again now x.W[i] = (Wi (tellB x.again now) x.W i)[i] := by rw [Wi_get _ _ _ hiW hiW', tellB, if_neg hdue]
        rw [this, List.set_getElem_self]
      rw [e]; exact D
    · rw [if_neg (by simpa using hdue)]
      refine ⟨[(⟨b, 7, none⟩, [.slice (some a) x.W.length c])], D.blkFact1 7 _ rfl (facts_nil _ _), some a, x.W.length, c, by simp [Addr.add_mid], some a, x.W.length, c, by simp [Addr.add_mid], by omega, by omega, ?_⟩
      rw [onSome_some]
      intro w52 L53 h52 g52
      replace D := D.hidL h52 g52
      have hrl := rows_len (Wi (tellB x.again now) x.W i)
      rw [Wi_len] at hrl
      obtain ⟨hsp, hth, hnl, D2⟩ := slSet D.swap (i * 4 + 2) (by omega) (.bool true)
      obtain ⟨_, hth2, hnl2, D3⟩ := slSet D2 (i * 4 + 3) (by rw [List.length_set]; omega) (.int .i64 now)
      obtain ⟨ab, ao, sp⟩ := a
      simp only at hsp; subst hsp
      rw [onSome_some]
      simp only [Int.toNat_natCast, Addr.add_mid, Nat.add_assoc]
      refine ⟨trivial, hth, hnl, by omega, by omega, trivial, hth2, hnl2, [], facts_nil _ _, fun w56 L57 h56 g56 => ?_⟩
      have eR : ((rows (Wi (tellB x.again now) x.W i)).set (i * 4 + 2) (.bool true)).set (i * 4 + 3) (.int .i64 now) = rows (Wi (tellB x.again now) x.W (i + 1)) := by
        have hg := Wi_get (tellB x.again now) x.W i hiW hiW'
        rw [Wi_succ _ _ _ hiW]
        generalize Wi (tellB x.again now) x.W i = V at hiW' hg
        rw [← rows_set V i hiW' { x.W[i] with told := true } 2 (by omega) (.bool true) (by rw [hg]; rfl)]
        rw [← rows_set (V.set i { x.W[i] with told := true }) i (by simpa using hiW') { x.W[i] with told := true, at_ := now } 3 (by omega) (.int .i64 now) (by simp [Sr.row]), List.set_set]
        unfold tellB; rw [if_pos hdue]
      rw [eR] at D3
      replace D3 := D3.hidL h56 g56
      refine (c_Clone x.W[i].b).call D3 ((hx2.1 _ (List.getElem_mem hiW)).mono hm') fun nb m3 w59 hk hm3 hnb D5 => ⟨nb.q, nb.bs.length, nb.c, rfl, hk, facts_nil _ _, fun w63 L64 h63 g63 => ?_⟩
      replace D5 := D5.hidL h63 g63
      have D6 := D5.alloc (Pk.row ⟨x.mn, x.ml, x.pn, x.pl, x.W[i].seq, x.want, true, nb⟩) 53
      have hcl : Cells (w63.alloc (.cells (Pk.row ⟨x.mn, x.ml, x.pn, x.pl, x.W[i].seq, x.want, true, nb⟩).toArray 53)) ⟨w63.heap.size, 0, none⟩ (Pk.row ⟨x.mn, x.ml, x.pn, x.pl, x.W[i].seq, x.want, true, nb⟩) := D6.blkCells fun j v e => by rw [Nat.zero_add]; exact e
      have D7 := (D6.drop).perm (List.perm_append_comm (l₁ := [_, _, _]) (l₂ := [pksA qo kc out]))
      obtain ⟨q2, c2, w68, hr, hkk, D8⟩ := Ctx.app (P := Try.prog) (bytes := 200) (t := 45) (t2 := 45) D7 45 (by kernel_rfl) (.some ⟨w63.heap.size, 0, none⟩ 1 1 (Pk.row ⟨x.mn, x.ml, x.pn, x.pl, x.W[i].seq, x.want, true, nb⟩) rfl hcl) (by omega) (pk_one _)
      refine ⟨q2, out.length + 1, c2, w68, hr, hkk, trivial, ?_, ?_⟩
      · rw [en]
        refine ⟨i + 1, out ++ [⟨x.mn, x.ml, x.pn, x.pl, x.W[i].seq, x.want, true, nb⟩], m3, rfl, by simp, by omega, hm'.le_trans hm3, by simp; omega, ?_, fun p hp => ?_, ?_⟩
        · rw [dues_succ _ _ _ hiW, if_pos hdue, List.map_append, hout]
          simp [Pk.er, Lk.pk, hnb.1]
        · rcases List.mem_append.1 hp with hp | hp
          · exact (hbr p hp).mono hm3
          · simp only [List.mem_singleton] at hp; subst hp; exact hnb.2
        · have e1 : (out ++ [(⟨x.mn, x.ml, x.pn, x.pl, x.W[i].seq, x.want, true, nb⟩ : Pk)]).length = out.length + 1 := by simp
          have e2 : (out ++ [(⟨x.mn, x.ml, x.pn, x.pl, x.W[i].seq, x.want, true, nb⟩ : Pk)]).flatMap Pk.row = out.flatMap Pk.row ++ Pk.row ⟨x.mn, x.ml, x.pn, x.pl, x.W[i].seq, x.want, true, nb⟩ := by simp
          unfold pksA
          rw [e1, e2]
          exact (D8.perm (List.perm_append_comm (l₁ := [_]) (l₂ := [_, _, _]))).swap
      · rw [en]; exact hmeas
  · rw [if_neg (by simpa using hlt)]
    have hi8 : i = min 8 x.W.length := by omega
    rw [hi8] at hout D
    rw [dues_min] at hout
    rw [Wi_min] at D
    have hx' : LkM m' (x.told now) := ⟨fun s hs => by
      obtain ⟨t, ht, e⟩ := Wi_mem (tellB_b _ _) hs
      rw [e]; exact (hx2.1 t ht).mono hm', fun e he => (hx2.2 e he).mono hm'⟩
    have hlen : (x.told now).W.length = x.W.length := Wi_len _ _ _
    -- the end: nothing is owed any more
    have fin : ∀ {w' : World} {qo kc} {out : List Pk}, Ctx F m w w' L24 m' [lkB b x (.slice q x.W.length c) (.map (some mb)), slA (.slice q x.W.length c) x.W.length (rows (Wi (tellB x.again now) x.W 8)) 86 4, earlyA mb x.E, pksA qo kc out] → Ctx F m w (w'.setCells b 9 [.bool false]) L24 m' [lkA b (x.told now), pksA qo kc out] := fun D => by
      have D1 := D.store 9 [.bool false] (by simp)
      refine lkI (q := q) (c := c) (mb := mb) ?_
      rw [hlen]
      show Ctx _ _ _ _ _ _ (_ :: slA (.slice q (x.told now).W.length c) (x.told now).W.length _ 86 4 :: _)
      rw [hlen]
      exact D1
    by_cases h0 : out.length = 0
    · rw [if_pos (by simpa using h0)]
      have hnil : out = [] := List.eq_nil_of_length_eq_zero h0
      subst hnil
      refine ⟨x.owed, by rw [Addr.add_mid]; exact D.blkCell (j := 9) rfl, D.blkAt.2, ?_⟩
      by_cases ho : x.owed = true
      · rw [if_pos (by rw [ho]; rfl)]
        have D6 := D.alloc (Pk.row ⟨x.mn, x.ml, x.pn, x.pl, 0, x.want, false, ⟨[], none, 0⟩⟩) 53
        have hcl : Cells (w23.alloc (.cells (Pk.row ⟨x.mn, x.ml, x.pn, x.pl, 0, x.want, false, ⟨[], none, 0⟩⟩).toArray 53)) ⟨w23.heap.size, 0, none⟩ (Pk.row ⟨x.mn, x.ml, x.pn, x.pl, 0, x.want, false, ⟨[], none, 0⟩⟩) := D6.blkCells fun j v e => by rw [Nat.zero_add]; exact e
        have D7 := (D6.drop).perm (List.perm_append_comm (l₁ := [_, _, _]) (l₂ := [pksA qo kc []]))
        obtain ⟨q2, c2, w29, hr, hkk, D8⟩ := Ctx.app (P := Try.prog) (bytes := 200) (t := 45) (t2 := 45) D7 45 (by kernel_rfl) (.some ⟨w23.heap.size, 0, none⟩ 1 1 (Pk.row ⟨x.mn, x.ml, x.pn, x.pl, 0, x.want, false, ⟨[], none, 0⟩⟩) rfl hcl) (by simp) (pk_one _)
        have D9 := D8.perm (List.perm_append_comm (l₁ := [_]) (l₂ := [_, _, _]))
        refine ⟨q2, 1, c2, w29, hr, hkk, rfl, Ctx.there D9 9 1 (by simp), (Ctx.blkAt D9).2, ?_⟩
        refine Ctr.ret (m' := m') (L := L24) ([⟨x.mn, x.ml, x.pn, x.pl, 0, x.want, false, ⟨[], none, 0⟩⟩], q2, c2) rfl ⟨?_, ?_, hx'⟩ (fin D9)
        · have hd0 : x.dues now 8 = [] := by rw [← hout]; rfl
          rw [Lk.outs, if_pos (by rw [hd0, ho]; rfl)]
          rfl
        · intro p hp
          simp only [List.mem_singleton] at hp; subst hp
          exact ⟨.nil .., by simp⟩
      · rw [if_neg (by simpa using ho)]
        refine ⟨rfl, D.there 9 1 (by simp), D.blkAt.2, ?_⟩
        exact Ctr.ret (m' := m') (L := L24) ([], qo, kc) rfl ⟨by rw [hout, Lk.outs, if_neg (by simp [ho])], by simp, hx'⟩ (fin D)
    · rw [if_neg (by simpa using h0)]
      refine ⟨rfl, D.there 9 1 (by simp), D.blkAt.2, ?_⟩
      refine Ctr.ret (m' := m') (L := L24) (out, qo, kc) rfl ⟨?_, hbr, hx'⟩ (fin D)
      rw [hout, Lk.outs, if_neg]
      rw [← hout]
      simp only [Bool.and_eq_true, List.isEmpty_iff, List.map_eq_nil_iff]
      rintro ⟨rfl, _⟩; exact h0 rfl
end Go.Proofs
