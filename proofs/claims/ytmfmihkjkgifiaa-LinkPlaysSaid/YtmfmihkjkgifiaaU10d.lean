import Derived.Test.YtmfmihkjkgifiaaU10c
set_option linter.unusedVariables false
set_option linter.unusedSimpArgs false
set_option maxRecDepth 10000
namespace Go.Proofs
open Go X RowKit
/-- a packet that lies somewhere -/
structure Pk where (fn fl tn tl seq ack : Int) (has : Bool) (b : Br)
@[reducible] def Pk.row (p : Pk) : List Value := [.int .u8 p.fn, .int .u16 p.fl, .int .u8 p.tn, .int .u16 p.tl, .int .u64 p.seq, .int .u64 p.ack, .bool p.has, p.b.V]
@[reducible] def Pk.V (p : Pk) : Value := .agg #[.int .u8 p.fn, .int .u16 p.fl, .int .u8 p.tn, .int .u16 p.tl, .int .u64 p.seq, .int .u64 p.ack, .bool p.has, p.b.V]
def Lk.mine (x : Lk) (p : Pk) : Bool := (p.fn == x.pn && p.fl == x.pl) && (p.tn == x.mn && p.tl == x.ml)
def Lk.keeps (z : Lk) (p : Pk) : Bool := (decide (p.seq > z.want) && decide (IntKind.wrap .u64 (p.seq - z.want) < 8)) && (fnd p.seq z.E).isNone
def Lk.owes (x : Lk) (ack : Int) : Lk := { x.acked ack with owed := true }
def Lk.heard (x : Lk) (p : Pk) (nb : Br) : List Br × Lk :=
  if x.mine p = false then ([], x) else
  if p.has = false then ([], x.acked p.ack) else
  if p.seq = x.want then (nb :: (x.owes p.ack).comes, (x.owes p.ack).came) else
  if (x.owes p.ack).keeps p = true then ([], { x.owes p.ack with E := X.mput p.seq nb (x.owes p.ack).E }) else ([], x.owes p.ack)
theorem acked_want (x : Lk) (ack : Int) : (x.acked ack).want = x.want := by unfold Lk.acked; split <;> rfl
theorem acked_E (x : Lk) (ack : Int) : (x.acked ack).E = x.E := by unfold Lk.acked; split <;> rfl
theorem acked_W (x : Lk) (ack : Int) {s : Sr} (h : s ∈ (x.acked ack).W) : s ∈ x.W := by
  unfold Lk.acked at h; split at h
  · exact h
  · exact List.mem_of_mem_drop h
theorem owes_M {m : Mem} {x : Lk} (h : LkM m x) (ack : Int) : LkM m (x.acked ack) ∧ LkM m (x.owes ack) :=
  ⟨⟨fun s hs => h.1 s (acked_W x ack hs), fun e he => h.2 e (by rw [acked_E] at he; exact he)⟩, ⟨fun s hs => h.1 s (acked_W x ack hs), fun e he => h.2 e (by simp only [Lk.owes, acked_E] at he; exact he)⟩⟩
theorem mput_mem {β : Type} {x : Int} {v : β} {e : Int × β} : ∀ {l : List (Int × β)}, e ∈ X.mput x v l → e.2 = v ∨ e ∈ l
  | [], h => by simp only [X.mput, List.mem_singleton] at h; exact .inl (by rw [h])
  | (k, u) :: l, h => by
    simp only [X.mput] at h
    split at h
    · rcases List.mem_cons.1 h with h | h
      · exact .inl (by rw [h])
      · exact .inr (List.mem_cons_of_mem _ h)
    · rcases List.mem_cons.1 h with h | h
      · exact .inr (by rw [h]; exact List.mem_cons_self)
      · rcases mput_mem h with h | h
        · exact .inl h
        · exact .inr (List.mem_cons_of_mem _ h)
theorem c_Hear (b : Nat) (x : Lk) (p : Pk) (hW : x.W.length ≤ 32) (hE : x.E.length ≤ 1000000) :
    Ctr Try.prog 19 #[.pointer (some ⟨b, 0, none⟩), p.V] (fun m => BrM m p.b ∧ LkM m x) [lkA b x] (fun i : Br × Option Addr × Nat => .slice i.2.1 (x.heard p i.1).1.length i.2.2)
      (fun i m => i.1.bs = p.b.bs ∧ (∀ d ∈ (x.heard p i.1).1, BrM m d) ∧ LkM m (x.heard p i.1).2) (fun i => [lkA b (x.heard p i.1).2, bodsA i.2.1 i.2.2 (x.heard p i.1).1]) := by
  refine Ctr.mk fun w F m C hp => x_link_Link_Hear _ _ _ _ _ _ _ _ _ _ _ w _ ?_
  obtain ⟨hd, hx⟩ := hp
  have hf : ∀ {w' L' m'} {As : List Asn}, Ctx F m w w' L' m' (lkA b x :: As) → FactsW [(⟨b, 2, none⟩, [.int .u8 x.pn, .int .u16 x.pl]), (⟨b, 0, none⟩, [.int .u8 x.mn, .int .u16 x.ml])] w' L' := fun C => by
    obtain ⟨q, c, mb, C⟩ := lkO C
    exact C.blkFact 2 _ (fun j v e => by match j, e with | 0, e => exact e | 1, e => exact e) (C.blkFact 0 _ (fun j v e => by match j, e with | 0, e => exact e | 1, e => exact e) (facts_nil _ _))
  -- nothing comes
  have fin : ∀ {w' L' m'} (y : Lk), m.le m' → x.heard p p.b = ([], y) → LkM m' y → Ctx F m w w' L' m' [lkA b y] → ∃ (i : Br × Option Addr × Nat) (m' : Mem) (L : List Nat), Ending.returned (.slice none 0 0) = .returned (.slice i.2.1 (x.heard p i.1).1.length i.2.2) ∧ (i.1.bs = p.b.bs ∧ (∀ d ∈ (x.heard p i.1).1, BrM m' d) ∧ LkM m' (x.heard p i.1).2) ∧ Ctx F m w w' L m' [lkA b (x.heard p i.1).2, bodsA i.2.1 i.2.2 (x.heard p i.1).1] := by
    intro w' L' m' y hm he hy C
    refine ⟨(p.b, none, 0), m', L', by rw [he]; rfl, ⟨rfl, by rw [he]; simp, by rw [he]; exact hy⟩, ?_⟩
    rw [he]
    exact (C.slNil (q := none) (ty := 35) (sz := 1)).swap
  refine ⟨_, hf C, fun w2 L3 h2 g2 => ?_⟩
  replace C := C.hidL h2 g2
  refine (c_none b x).call C trivial fun _ m1 w5 hk hm _ C => ⟨_, rfl, hk, hf C, _, hf C, fun _ h => h, ?_⟩
  rw [if_pos (by rfl)]
  refine ⟨x.pn, x.pl, by simp [Addr.add_mid], ?_⟩
  by_cases h1 : (p.fn == x.pn && p.fl == x.pl) = true
  rotate_left
  · rw [if_neg (by simpa using h1)]
    exact fin x hm (by rw [Lk.heard, if_pos (by simp only [Lk.mine, Bool.not_eq_true] at h1 ⊢; rw [h1]; rfl)]) (hx.mono hm) C
  rw [if_pos (by rw [h1]; rfl)]
  refine ⟨x.mn, x.ml, by simp [Addr.add_mid], ?_⟩
  by_cases h3 : (p.tn == x.mn && p.tl == x.ml) = true
  rotate_left
  · rw [if_pos (by simp only [Bool.not_eq_true] at h3; rw [h3]; rfl)]
    exact fin x hm (by rw [Lk.heard, if_pos (by simp only [Lk.mine, Bool.not_eq_true] at h3 ⊢; rw [h3, Bool.and_false])]) (hx.mono hm) C
  rw [if_neg (by rw [h3]; decide)]
  have hmine : x.mine p = true := by rw [Lk.mine, h1, h3]; rfl
  refine (c_acked b x p.ack hW).call C trivial fun _ m2 w14 hk hm2 _ C => ⟨rfl, hk, ?_⟩
  have hx2 := owes_M ((hx.mono hm).mono hm2) p.ack
  by_cases h4 : p.has = false
  · rw [if_pos (by rw [h4]; rfl)]
    exact fin _ (hm.le_trans hm2) (by rw [Lk.heard, if_neg (by rw [hmine]; decide), if_pos h4]) hx2.1 C
  rw [if_neg (by simpa using h4)]
  obtain ⟨q, c, mb, C⟩ := lkO C
  have C2 := C.store 9 [.bool true] (by simp)
  refine ⟨rfl, C.there 9 1 (by simp), C.blkAt.2, ?_⟩
  have C3 : Ctx F m w (w14.setCells b 9 [.bool true]) L3 m2 (lkB b (x.owes p.ack) (.slice q (x.owes p.ack).W.length c) (.map (some mb)) :: rowsA q c (x.owes p.ack).W :: earlyA mb (x.owes p.ack).E :: []) := C2
  have hwant : (x.owes p.ack).want = x.want := acked_want x p.ack
  have hzE : (x.owes p.ack).E.length ≤ 1000000 := by show (x.acked p.ack).E.length ≤ _; rw [acked_E]; exact hE
  have hh : ∀ nb, x.heard p nb = if p.seq = x.want then (nb :: (x.owes p.ack).comes, (x.owes p.ack).came) else if (x.owes p.ack).keeps p = true then ([], { x.owes p.ack with E := X.mput p.seq nb (x.owes p.ack).E }) else ([], x.owes p.ack) := fun nb => by
    rw [Lk.heard, if_neg (by rw [hmine]; decide), if_neg h4]
  replace hx2 := hx2.2
  generalize x.owes p.ack = z at C3 hx2 hwant hh hzE
  have hf2 : ∀ {w' L' m'} {As : List Asn}, Ctx F m w w' L' m' (lkB b z (.slice q z.W.length c) (.map (some mb)) :: As) → FactsW [(⟨b, 8, none⟩, [.map (some mb)])] w' L' := fun C => C.blkFact1 8 _ rfl (facts_nil _ _)
  refine ⟨_, hf2 C3, some mb, by simp [Addr.add_mid], fun w17 L18 h17 g17 => ?_⟩
  replace C3 := C3.hidL h17 g17
  obtain ⟨i35, hi35, hz35⟩ := Option.bind_eq_some_iff.1 z35
  have hlook := Ctx.mlook (P := Try.prog) t80 key25 hi35 hz35 C3.third p.seq true
  have hlook2 : ∃ q19 k20 k21, (Instr.lookup 80 (.map (some mb)) (kU p.seq) true).run Try.prog w17 = .ok (.tuple #[.slice q19 k20 k21, .bool (fnd p.seq z.E).isSome]) w17 := by
    cases hfn : fnd p.seq z.E with
    | none => rw [hfn] at hlook; exact ⟨none, 0, 0, hlook⟩
    | some v => rw [hfn] at hlook; exact ⟨v.q, v.bs.length, v.c, hlook⟩
  obtain ⟨q19, k20, k21, hl2⟩ := hlook2
  refine ⟨q19, k20, k21, _, w17, hl2, kept_refl _ _, hf2 C3, z.want, by rw [Addr.add_mid]; exact C3.blkCell (j := 6) rfl, C3.blkAt.2, ?_⟩
  by_cases h5 : p.seq = x.want
  · rw [if_pos (by rw [hwant]; simpa using h5)]
    intro w39 L40 h39 g39
    replace C3 := lkI (C3.hidL h39 g39)
    refine (c_Clone p.b).call C3 ((hd.mono hm).mono hm2) fun nb m3 w42 hk hm3 hnb C4 => ⟨nb.q, nb.bs.length, nb.c, rfl, hk, ?_⟩
    refine (c_come b z nb hzE).call C4 ⟨hnb.2, hx2.mono hm3⟩ fun i m4 w47 hk hm4 hpost C5 => ⟨i.1, _, i.2, rfl, hk, ?_⟩
    have he := hh nb
    rw [if_pos h5] at he
    refine ⟨(nb, i), m4, L40, by rw [he], ⟨hnb.1, by rw [he]; intro d hd; rcases List.mem_cons.1 hd with rfl | hd; exact hnb.2.mono hm4; exact hpost.1 d hd, by rw [he]; exact hpost.2⟩, ?_⟩
    rw [he]
    exact C5
  rw [if_neg (by rw [hwant]; simpa using h5)]
  have hcell : w17.cell? ((⟨b, 0, none⟩ : Addr).add 6) = some (.int .u64 z.want) := by rw [Addr.add_mid]; exact C3.blkCell (j := 6) rfl
  refine ⟨z.want, hcell, C3.blkAt.2, ?_⟩
  have fin2 : z.keeps p = false → ∀ w26, X.Hid L18 w17 w26 → ∃ (i : Br × Option Addr × Nat) (m' : Mem) (L : List Nat), Ending.returned (.slice none 0 0) = .returned (.slice i.2.1 (x.heard p i.1).1.length i.2.2) ∧ (i.1.bs = p.b.bs ∧ (∀ d ∈ (x.heard p i.1).1, BrM m' d) ∧ LkM m' (x.heard p i.1).2) ∧ Ctx F m w w26 L m' [lkA b (x.heard p i.1).2, bodsA i.2.1 i.2.2 (x.heard p i.1).1] := fun hk w26 h26 =>
    fin z (hm.le_trans hm2) (by rw [hh, if_neg h5, if_neg (by rw [hk]; decide)]) hx2 (lkI (C3.hid0 h26))
  by_cases h6 : p.seq > z.want
  rotate_left
  · rw [if_neg (by simpa using h6)]
    exact fun w26 h26 => fin2 (by simp [Lk.keeps, h6]) w26 h26
  rw [if_pos (by simpa using h6)]
  refine ⟨z.want, hcell, C3.blkAt.2, ?_⟩
  by_cases h7 : z.keeps p = true
  rotate_left
  · rw [if_neg (by
      intro hc
      apply h7
      simp only [Bool.true_and, Bool.and_eq_true, Bool.not_eq_true', Option.isSome_eq_false_iff] at hc
      simp only [Lk.keeps, Bool.and_eq_true]
      exact ⟨⟨by simpa using h6, hc.1⟩, hc.2⟩)]
    exact fun w26 h26 => fin2 (by simpa using h7) w26 h26
  rw [if_pos (by
    simp only [Lk.keeps, Bool.and_eq_true] at h7
    simp only [Bool.true_and, Bool.and_eq_true, Bool.not_eq_true', Option.isSome_eq_false_iff]
    exact ⟨h7.1.2, h7.2⟩)]
  refine ⟨_, hf2 C3, some mb, by simp [Addr.add_mid], fun w31 L32 h31 g31 => ?_⟩
  replace C3 := C3.hidL h31 g31
  refine (c_Clone p.b).call C3 ((hd.mono hm).mono hm2) fun nb m3 w34 hk hm3 hnb C4 => ⟨nb.q, nb.bs.length, nb.c, rfl, hk, hf2 C4, ?_⟩
  obtain ⟨w38, hr, hkk, C5⟩ := Ctx.mput (P := Try.prog) t80 key25 C4.third p.seq nb
  refine ⟨w38, hr, hkk, ?_⟩
  have he := hh nb
  rw [if_neg h5, if_pos h7] at he
  have hM : LkM m3 { z with E := X.mput p.seq nb z.E } := ⟨fun s hs => (hx2.1 s hs).mono hm3, fun e he' => by
    rcases mput_mem he' with h | h
    · rw [h]; exact hnb.2
    · exact (hx2.2 e h).mono hm3⟩
  refine ⟨(nb, none, 0), m3, L32, by rw [he]; rfl, ⟨hnb.1, by rw [he]; simp, by rw [he]; exact hM⟩, ?_⟩
  rw [he]
  have C6 := C5.perm (Bs := [lkB b z (.slice q z.W.length c) (.map (some mb)), rowsA q c z.W, earlyA mb (X.mput p.seq nb z.E)]) (List.perm_append_comm (l₁ := [_]) (l₂ := [_, _]))
  exact (Ctx.slNil (q := none) (ty := 35) (sz := 1) (lkI (x := { z with E := X.mput p.seq nb z.E }) C6)).swap
end Go.Proofs
