import Derived.Test.YthlhoikeacgfnaaU02m
set_option linter.unusedVariables false
set_option linter.unusedSimpArgs false
set_option maxRecDepth 10000
namespace Go.Proofs
open Go X RowKit Go.Sort
theorem slElem {F0 : List Nat} {m0 : Mem} {w0 w : World} {L : List Nat} {m : Mem} {As : List Asn} {q : Option Addr} {n c : Nat} {l : List J} (C : Ctx F0 m0 w0 w L m (slA (.slice q n c) n (l.flatMap jR) 35 10 :: As)) (k : Nat) (hk : k < l.length) : ∃ a, q = some a ∧ Cells w (a.add (k * 10)) (jR l[k]) := by
  have hc := C.slCells
  cases q with
  | none =>
    have := hc.2 rfl
    have hl := flat_len jR_len l
    rw [this] at hl; simp at hl; omega
  | some a => exact ⟨a, rfl, cells_elem jR_len (hc.1 a rfl).1 k hk⟩
theorem c_IndexFunc {Cs : List Asn} {z : Addr} {del : J → Bool} (hdel : ∀ d, Ctr Try.prog 53 #[jV d, .pointer (some z)] noMem Cs (fun _ : Unit => .bool (del d)) (fun _ _ => True) (fun _ => Cs)) (q : Option Addr) (c : Nat) (l : List J) (hl : l.length ≤ 1000000) :
    Ctr Try.prog 59 #[.slice q l.length c, .func (.func 53) #[] #[.pointer (some z)]] noMem (slA (.slice q l.length c) l.length (l.flatMap jR) 35 10 :: Cs) (fun r : Int => .int .i64 r)
      (fun r _ => (r = -1 ∧ ∀ x ∈ l, del x = false) ∨ ∃ k, ∃ h : k < l.length, r = k ∧ del l[k] = true ∧ ∀ x ∈ l.take k, del x = false) (fun _ => slA (.slice q l.length c) l.length (l.flatMap jR) 35 10 :: Cs) := by
  refine Ctr.mk fun w F m C _ => x_slices_IndexFunc_ident_ID_ident_ID _ _ _ _ w _ ?_
  refine ⟨fun n w' L' => ∃ (k : Nat) (m' : Mem), n = k ∧ k ≤ l.length ∧ (∀ x ∈ l.take k, del x = false) ∧ Ctx F m w w' [] m' (slA (.slice q l.length c) l.length (l.flatMap jR) 35 10 :: Cs), fun n _ => l.length - n.toNat, ⟨0, m, rfl, Nat.zero_le _, by simp, C⟩, ?_⟩
  rintro n w4 L5 _ ⟨k, m', rfl, hk, hall, D⟩
  by_cases h : k < l.length
  · rw [if_pos (by simpa using h)]
    obtain ⟨a, rfl, hc⟩ := slElem D k h
    refine ⟨by omega, by omega, _, _, _, _, _, _, _, _, _, _, hc, ?_⟩
    refine ((hdel l[k]).call (As := [slA (.slice (some a) l.length c) l.length (l.flatMap jR) 35 10]) (D.perm (List.perm_append_comm (l₁ := [_]))) trivial fun _ m1 w18 hk1 hm1 _ C => ⟨_, rfl, hk1.size, ?_⟩)
    have D2 := C.perm (List.perm_append_comm (l₂ := [_]))
    cases hd : del l[k] with
    | true =>
      rw [if_pos rfl]
      exact Ctr.ret (m' := m1) (L := []) (k : Int) rfl (.inr ⟨k, h, rfl, hd, hall⟩) D2
    | false =>
      rw [if_neg (by decide)]
      have hw : IntKind.wrap .i64 ((k : Int) + 1) = ((k + 1 : Nat) : Int) := by rw [w_i64 (by omega) (by omega)]; omega
      rw [hw]
      refine ⟨⟨k + 1, m1, rfl, h, fun x hx => ?_, D2⟩, by show l.length - ((k + 1 : Nat) : Int).toNat + 1 ≤ l.length - (k : Int).toNat; omega⟩
      rw [List.take_succ_eq_append_getElem h] at hx
      rcases List.mem_append.1 hx with hx | hx
      · exact hall x hx
      · simp only [List.mem_singleton] at hx; subst hx; exact hd
  · rw [if_neg (by simpa using h)]
    have : k = l.length := by omega
    subst this
    exact Ctr.ret (m' := m') (L := []) (-1 : Int) rfl (.inl ⟨rfl, fun x hx => hall x (by rw [List.take_length]; exact hx)⟩) D
theorem filter_none {α : Type} {p : α → Bool} {l : List α} (h : ∀ x ∈ l, p x = false) : l.filter p = [] := List.filter_eq_nil_iff.2 fun x hx => by simp [h x hx]
theorem filter_all {α : Type} {p : α → Bool} {l : List α} (h : ∀ x ∈ l, p x = true) : l.filter p = l := List.filter_eq_self.2 h
theorem z35 : ∀ i z, Try.prog.info? 35 = some i → i.zero = some z → ∀ u ∈ z.cells, oneC u = true := by
  intro i z hi hz u hu
  have h : ((Try.prog.info? 35).bind (·.zero)) = some I.zero.V := by kernel_rfl
  rw [hi] at h
  simp only [Option.bind_some] at h
  rw [hz] at h
  injection h with h
  subst h
  exact jR_one ⟨I.zero, zero_in⟩ u (by simpa [Value.cells, jR, I.row] using hu)
theorem c_DeleteFunc {Cs : List Asn} {z : Addr} {del : J → Bool} (hdel : ∀ d, Ctr Try.prog 53 #[jV d, .pointer (some z)] noMem Cs (fun _ : Unit => .bool (del d)) (fun _ _ => True) (fun _ => Cs)) (q : Option Addr) (c : Nat) (l : List J) (hl : l.length ≤ 1000000) :
    Ctr Try.prog 52 #[.slice q l.length c, .func (.func 53) #[] #[.pointer (some z)]] noMem (slA (.slice q l.length c) l.length (l.flatMap jR) 35 10 :: Cs) (fun _ : Unit => .slice q (l.filter fun x => !del x).length c)
      (fun _ _ => True) (fun _ => slA (.slice q (l.filter fun x => !del x).length c) (l.filter fun x => !del x).length ((l.filter fun x => !del x).flatMap jR) 35 10 :: Cs) := by
  refine Ctr.mk fun w F m C _ => x_slices_DeleteFunc_ident_ID_ident_ID _ _ _ _ w _ ?_
  refine (c_IndexFunc hdel q c l hl).call (As := []) (by rw [List.append_nil]; exact C) trivial fun r m1 w2 hk hm hr C => ⟨_, rfl, hk.size, ?_⟩
  rw [List.append_nil] at C
  rcases hr with ⟨rfl, hall⟩ | ⟨k0, hk0, rfl, hd0, hall0⟩
  · rw [if_pos (by decide)]
    have e : (l.filter fun x => !del x) = l := filter_all fun x hx => by simp [hall x hx]
    rw [e]
    exact Ctr.ret (m' := m1) (L := []) () rfl trivial C
  rw [if_neg (by simp)]
  have w1 : ∀ k : Nat, k ≤ 1000000 → IntKind.wrap .i64 ((k : Int) + 1) = ((k + 1 : Nat) : Int) := fun k hk => by rw [w_i64 (by omega) (by omega)]; omega
  rw [w1 k0 (by omega)]
  refine ⟨fun n6 n7 w' L' => ∃ (i j : Nat) (cur : List J) (m' : Mem), n6 = i ∧ n7 = j ∧ i < j ∧ j ≤ l.length ∧ cur.length = l.length ∧ cur.take i = (l.take j).filter (fun x => !del x) ∧ cur.drop j = l.drop j ∧
    Ctx F m w w' [] m' (slA (.slice q l.length c) l.length (cur.flatMap jR) 35 10 :: Cs), fun _ n7 _ => l.length - n7.toNat, ⟨k0, k0 + 1, l, m1, rfl, rfl, Nat.lt_succ_self _, hk0, rfl, ?_, rfl, C⟩, ?_⟩
  · rw [List.take_succ_eq_append_getElem hk0, List.filter_append, filter_all (l := l.take k0) fun x hx => by simp [hall0 x hx]]
    simp [hd0]
  rintro n6 n7 w8 L9 _ ⟨i, j, cur, m', rfl, rfl, hij, hj, hcl, htk, hdr, D⟩
  by_cases h : j < l.length
  · rw [if_pos (by simpa using h)]
    have hjc : j < cur.length := by omega
    have hcj : cur[j] = l[j] := by
      have h1 := List.drop_eq_getElem_cons hjc
      have h2 := List.drop_eq_getElem_cons h
      rw [hdr, h2] at h1
      injection h1 with h1 _
      exact h1.symm
    obtain ⟨a, rfl, hc⟩ := slElem D j hjc
    rw [hcj] at hc
    refine ⟨by omega, by omega, _, _, _, _, _, _, _, _, _, _, hc, fun w22 L23 h22 g22 => ?_⟩
    have D2 := D.hidL h22 g22
    refine ((hdel l[j]).call (As := [slA (.slice (some a) l.length c) l.length (cur.flatMap jR) 35 10]) (D2.perm (List.perm_append_comm (l₁ := [_]))) trivial fun _ m2 w25 hk1 hm1 _ C => ⟨_, rfl, hk1, ?_⟩)
    have D3 := C.perm (List.perm_append_comm (l₂ := [_]))
    have hstep : (l.take (j + 1)).filter (fun x => !del x) = (l.take j).filter (fun x => !del x) ++ (if del l[j] then [] else [l[j]]) := by
      rw [List.take_succ_eq_append_getElem h, List.filter_append]
      congr 1
      cases hd : del l[j] <;> simp [hd]
    have hdr2 : cur.drop (j + 1) = l.drop (j + 1) := by
      rw [← List.drop_drop, hdr, List.drop_drop]
    cases hd : del l[j] with
    | true =>
      rw [if_neg (by decide), w1 j (by omega)]
      refine ⟨⟨i, j + 1, cur, m2, rfl, rfl, by omega, h, hcl, by rw [hstep, htk, hd]; simp, hdr2, D3.noL⟩, by show l.length - ((j + 1 : Nat) : Int).toNat + 1 ≤ l.length - (j : Int).toNat; omega⟩
    | false =>
      rw [if_pos (by decide), w1 j (by omega), w1 i (by omega)]
      have hfl : (cur.flatMap jR).length = cur.length * 10 := flat_len jR_len cur
      obtain ⟨a2, e2, hsp, hth, hL, D4⟩ := D3.slPut (i * 10) (.int .u8 l[j].1.n) [.int .u16 l[j].1.l, .int .u32 l[j].1.s, .int .u8 l[j].1.d, .int .u8 l[j].1.g0, .int .u8 l[j].1.i0, .int .u8 l[j].1.g1, .int .u8 l[j].1.i1, .int .u8 l[j].1.g2, .int .u8 l[j].1.i2] (by rw [hfl]; simp; omega)
      injection e2 with e2; subst e2
      have hic : i < cur.length := by omega
      have hput : splice (cur.flatMap jR) (i * 10) (jR l[j]) = (cur.set i l[j]).flatMap jR := by
        have := flat_put (f := jR) (k := 10) jR_len (vs := jR l[j]) (o := 0) (b := l[j]) cur i hic (by simp [jR_len]) (by simp [splice, jR_len])
        simpa using this
      have e3 : ((Int.ofNat i).toNat * 10) = i * 10 := rfl
      have hsp2 : (a.add (i * 10)).spot = none := by obtain ⟨b, o, s⟩ := a; simp only at hsp; subst hsp; rw [Addr.add_mid]
      have hblk : (a.add (i * 10)).block = a.block := by obtain ⟨b, o, s⟩ := a; simp only at hsp; subst hsp; rw [Addr.add_mid]
      have hoff : (a.add (i * 10)).off = a.off + i * 10 := by obtain ⟨b, o, s⟩ := a; simp only at hsp; subst hsp; rw [Addr.add_mid]
      refine ⟨by omega, by omega, hsp2, ?_, ?_, ⟨i + 1, j + 1, cur.set i l[j], m2, rfl, rfl, by omega, h, by simpa using hcl, ?_, ?_, ?_⟩, by show l.length - ((j + 1 : Nat) : Int).toNat + 1 ≤ l.length - (j : Int).toNat; omega⟩
      · show World.there w25 (a.add (i * 10)).block (a.add (i * 10)).off 10
        rw [hblk, hoff]; exact hth
      · show ¬ (a.add (i * 10)).block ∈ L23
        rw [hblk]; exact hL
      · rw [hstep, hd, List.take_succ_eq_append_getElem (by simpa using hic), ← htk]
        simp [List.take_set]
        exact List.set_eq_of_length_le (by simp; omega)
      · rw [List.drop_set_of_lt (by omega)]; exact hdr2
      · show Ctx F m w (w25.setCells (a.add (i * 10)).block (a.add (i * 10)).off (jR l[j])) [] m2 _
        rw [hblk, hoff]
        have D5 : Ctx F m w (w25.setCells a.block (a.off + i * 10) (jR l[j])) L23 m2 (slA (.slice (some a) l.length c) l.length (splice (cur.flatMap jR) (i * 10) (jR l[j])) 35 10 :: Cs) := D4
        rw [hput] at D5
        exact D5.noL
  · rw [if_neg (by simpa using h)]
    have : j = l.length := by omega
    subst this
    rw [List.take_length] at htk
    have hi : (l.filter fun x => !del x).length = i := by rw [← htk]; simp; omega
    obtain ⟨w10, hcr, hk10, D2⟩ := Ctx.slClear (P := Try.prog) (ty := 0) b64 (by decide) z35 D i (by omega)
    have hcap := D.slCap
    refine ⟨by omega, by omega, w10, hcr, hk10.size, by omega, by have := hcap.1; omega, ?_⟩
    rw [cutA_zero, hi]
    rw [flat_take jR_len, htk] at D2
    exact Ctr.ret (m' := m') (L := []) () rfl trivial D2
theorem c_Under1 (z : Nat) (p : Int × Int) (d : J) : Ctr Try.prog 53 #[jV d, .pointer (some ⟨z, 0, none⟩)] noMem [blk z [.int .u8 p.1, .int .u16 p.2] 31] (fun _ : Unit => .bool (!((d.1.n == p.1) && (d.1.l == p.2)))) (fun _ _ => True) (fun _ => [blk z [.int .u8 p.1, .int .u16 p.2] 31]) := by
  refine Ctr.mk fun w F m C _ => x_ident_Set_Under_1 _ _ _ _ _ _ _ _ _ _ _ w _ ⟨p.1, p.2, C.blkCells fun j v hj => by simpa using hj, fun w3 h3 => ?_⟩
  exact Ctr.ret (m' := m) (L := []) () rfl trivial (C.hid0 h3)
def Se.under (s : Se) (p : Int × Int) : List J := s.all.filter fun d => (d.1.n == p.1) && (d.1.l == p.2)
theorem all_len (s : Se) : s.all.length = s.l.length := by simp [Se.all, sortBy_len, Se.keys]
theorem c_Under (b : Nat) (s : Se) (hs : s.l.length ≤ 1000000) (p : Int × Int) : Ctr Try.prog 33 #[.pointer (some ⟨b, 0, none⟩), .agg #[.int .u8 p.1, .int .u16 p.2]] noMem [seA b s] (fun v : Option Addr × Nat => .slice v.1 (s.under p).length v.2) (fun _ _ => True)
    (fun v => [slA (.slice v.1 (s.under p).length v.2) (s.under p).length ((s.under p).flatMap jR) 35 10, seA b s]) := by
  refine Ctr.mk fun w F m C _ => x_ident_Set_Under _ _ _ w _ ?_
  have C1 := C.alloc [.int .u8 p.1, .int .u16 p.2] 31
  refine (c_All b s hs).call (As := [blk w.heap.size [.int .u8 p.1, .int .u16 p.2] 31]) C1.swap trivial fun v m1 w2 hk hm _ C => ⟨_, _, _, rfl, hk.size, ?_⟩
  have hdel := c_Under1 w.heap.size p
  have CD := c_DeleteFunc (z := ⟨w.heap.size, 0, none⟩) hdel v.1 v.2 s.all (by rw [all_len]; exact hs)
  rw [all_len] at CD
  refine CD.call (As := [seA b s]) (C.pm [0, 2, 1] rfl) trivial fun _ m2 w7 hk2 hm2 _ C => ⟨_, _, _, rfl, hk2.size, ?_⟩
  have e : (s.all.filter fun x => !(!((x.1.n == p.1) && (x.1.l == p.2)))) = s.under p := by simp [Se.under]
  rw [e] at C ⊢
  exact Ctr.ret (m' := m2) (L := []) v rfl trivial (C.pk [0, 2] [1] rfl)
end Go.Proofs
