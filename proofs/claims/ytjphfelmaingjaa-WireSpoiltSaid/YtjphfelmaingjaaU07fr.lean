import Derived.Test.YtjphfelmaingjaaU07fq
import Derived.Test.YtjphfelmaingjaaU07fe
import Derived.Test.YtjphfelmaingjaaV07fl
import Derived.Test.YtjphfelmaingjaaP07f
set_option linter.unusedVariables false
set_option linter.unusedSimpArgs false
set_option maxRecDepth 10000
namespace Go.Proofs
open Go X RowKit
/-! ### numbers there and back -/
theorem pow7 (i : Nat) : (2 : Nat) ^ (7 * (i + 1)) = 128 * 2 ^ (7 * i) := by rw [Nat.mul_add, Nat.pow_add, Nat.mul_comm]
theorem getU_put : ∀ (k n i v : Nat) (r : List UInt8), n < 128 ^ (k + 1) → i + k = 9 → (i > 0 → n > 0) → n < 2 ^ (64 - 7 * i) → getU i v (putU n ++ r) = some (v + n * 2 ^ (7 * i), r)
  | k, n, i, v, r, hk, hik, h0, h64 => by
    by_cases h : n < 128
    · have hc : (UInt8.ofNat n).toNat = n := by show n % 256 = n; omega
      have hbad : ¬ ((i = 9 ∧ (UInt8.ofNat n).toNat > 1) ∨ (i > 0 ∧ (UInt8.ofNat n).toNat = 0)) := by
        rw [hc]
        rintro (⟨h9, h1⟩ | ⟨h1, h2⟩)
        · subst h9; simp at h64; omega
        · have := h0 h1; omega
      rw [putU_lt h, List.singleton_append, getU, if_neg hbad, if_pos (by rw [hc]; omega), hc, Nat.mod_eq_of_lt (by omega)]
    · have hc : (UInt8.ofNat (n % 128 + 128)).toNat = n % 128 + 128 := by show (n % 128 + 128) % 256 = _; omega
      have hi9 : i ≠ 9 := fun h9 => by subst h9; simp at h64; omega
      have hbad : ¬ ((i = 9 ∧ (UInt8.ofNat (n % 128 + 128)).toNat > 1) ∨ (i > 0 ∧ (UInt8.ofNat (n % 128 + 128)).toNat = 0)) := by
        rw [hc]; omega
      rw [putU_ge h, List.cons_append, getU, if_neg hbad, if_neg (by rw [hc]; omega), hc]
      match k, hik, hk with
      | 0, hik, _ => exact absurd (by omega) hi9
      | k + 1, hik, hk =>
        have e64 : 2 ^ (64 - 7 * i) = 128 * 2 ^ (64 - 7 * (i + 1)) := by
          have : 64 - 7 * i = 7 + (64 - 7 * (i + 1)) := by omega
          rw [this, Nat.pow_add]
        have hn2 : n / 128 < 2 ^ (64 - 7 * (i + 1)) := by rw [e64] at h64; exact Nat.div_lt_of_lt_mul h64
        have hn3 : n / 128 < 128 ^ (k + 1) := by rw [Nat.pow_succ, Nat.mul_comm] at hk; exact Nat.div_lt_of_lt_mul hk
        rw [getU_put k (n / 128) (i + 1) _ r hn3 (by omega) (fun _ => by omega) hn2, pow7]
        congr 2
        have e : (n % 128 + 128) % 128 = n % 128 := by omega
        rw [e]
        have hd := Nat.div_add_mod n 128
        generalize n / 128 = a at hd ⊢
        generalize n % 128 = c at hd ⊢
        subst hd
        have e3 : a * (128 * 2 ^ (7 * i)) = 128 * a * 2 ^ (7 * i) := by rw [← Nat.mul_assoc, Nat.mul_comm a]
        rw [Nat.add_mul, e3]; omega
theorem getU_canon : ∀ (l : List UInt8) (i v n : Nat) (r : List UInt8), i ≤ 9 → getU i v l = some (n, r) → ∃ m, n = v + m * 2 ^ (7 * i) ∧ l = putU m ++ r ∧ m < 2 ^ (64 - 7 * i) ∧ (i > 0 → m > 0)
  | [], i, v, n, r, _, h => by cases h
  | c :: t, i, v, n, r, hi, h => by
    rw [getU] at h
    have hc256 := c.toNat_lt
    split at h
    · cases h
    · rename_i hbad
      split at h
      · rename_i h128
        simp only [Option.some.injEq, Prod.mk.injEq] at h
        obtain ⟨h1, h2⟩ := h
        subst h2
        refine ⟨c.toNat, by rw [← h1, Nat.mod_eq_of_lt (by omega)], by rw [putU_lt h128]; simp, ?_, fun hi0 => ?_⟩
        · by_cases h9 : i = 9
          · subst h9
            have : c.toNat ≤ 1 := by
              simp only [not_or, not_and] at hbad
              have := hbad.1 trivial; omega
            simp; omega
          · have : 2 ^ 8 ≤ 2 ^ (64 - 7 * i) := Nat.pow_le_pow_right (by omega) (by omega)
            omega
        · simp only [not_or, not_and] at hbad
          have := hbad.2 hi0; omega
      · rename_i h128
        have hi9 : i ≠ 9 := fun h9 => by
          simp only [not_or, not_and] at hbad
          have := hbad.1 h9; omega
        obtain ⟨m, h1, h2, h3, h4⟩ := getU_canon t (i + 1) _ n r (by omega) h
        have e64 : 2 ^ (64 - 7 * i) = 128 * 2 ^ (64 - 7 * (i + 1)) := by
          have : 64 - 7 * i = 7 + (64 - 7 * (i + 1)) := by omega
          rw [this, Nat.pow_add]
        have hm := h4 (by omega)
        refine ⟨c.toNat % 128 + 128 * m, ?_, ?_, ?_, fun _ => by omega⟩
        · rw [h1, pow7, Nat.add_mul, ← Nat.add_assoc, Nat.mul_left_comm m, Nat.mul_assoc]
        · have hge : ¬ (c.toNat % 128 + 128 * m < 128) := by omega
          have e1 : (c.toNat % 128 + 128 * m) % 128 + 128 = c.toNat := by omega
          have e2 : (c.toNat % 128 + 128 * m) / 128 = m := by omega
          rw [putU_ge hge, e1, e2, h2]; simp
        · rw [e64]; omega
theorem uS_put {n most : Nat} {r : List UInt8} (hn : n < 18446744073709551616) (hm : n ≤ most) : uS most (putU n ++ r, 0) = (n, (r, 0)) := by
  rw [uS, if_neg (by simp), getU_put 9 n 0 0 r (Nat.lt_of_lt_of_le hn (by decide)) rfl (fun h => absurd h (by omega)) hn]
  simp only [Nat.zero_add, Nat.mul_zero, Nat.pow_zero, Nat.mul_one]
  rw [if_neg (by omega)]
theorem uS_ok {most : Nat} {s : St} (h : (uS most s).2.2 = 0) : s.2 = 0 ∧ s.1 = putU (uS most s).1 ++ (uS most s).2.1 ∧ (uS most s).1 ≤ most ∧ (uS most s).1 < 18446744073709551616 := by
  by_cases he : s.2 ≠ 0
  · have : uS most s = (0, ([], s.2)) := by rw [uS, if_pos he]
    rw [this] at h; exact absurd h he
  · cases hg : getU 0 0 s.1 with
    | none =>
      have : uS most s = (0, ([], 6)) := by rw [uS, if_neg he, hg]
      rw [this] at h; exact absurd h (show ¬ (6 : Int) = 0 by decide)
    | some p =>
      obtain ⟨v, r⟩ := p
      have hu : uS most s = if v > most then (0, ([], 5)) else (v, (r, 0)) := by rw [uS, if_neg he, hg]
      by_cases hv : v > most
      · rw [hu, if_pos hv] at h; exact absurd h (show ¬ (5 : Int) = 0 by decide)
      · rw [hu, if_neg hv]
        obtain ⟨m, h1, h2, h3, _⟩ := getU_canon s.1 0 0 v r (by omega) hg
        simp only [Nat.zero_add, Nat.mul_zero, Nat.pow_zero, Nat.mul_one, Nat.sub_zero] at h1 h3
        subst h1
        exact ⟨by simpa using he, h2, by show v ≤ most; omega, h3⟩
theorem bS_ok {s : St} (h : (bS s).2.2 = 0) : s.2 = 0 ∧ s.1 = (bS s).1 :: (bS s).2.1 := by
  unfold bS at h ⊢
  split at h
  · rename_i he; exact absurd h he
  · rename_i he
    rw [if_neg he]
    split at h
    · exact absurd h (show ¬ (6 : Int) = 0 by decide)
    · rename_i c r hs
      refine ⟨by simpa using he, ?_⟩
      rw [hs]
theorem procS_put {n l : Int} {r : List UInt8} (hn : 0 ≤ n ∧ n < 256) (hl : 0 ≤ l ∧ l < 65536) : procS (putP n l ++ r, 0) = ((u8 n, l.toNat), (r, 0)) := by
  have h1 : bS (putP n l ++ r, 0) = (u8 n, (putU l.toNat ++ r, 0)) := rfl
  simp only [procS, h1]
  rw [uS_put (by omega) (by omega)]
theorem procS_ok {s : St} (h : (procS s).2.2 = 0) : s.2 = 0 ∧ s.1 = putP ((procS s).1.1.toNat : Int) ((procS s).1.2 : Int) ++ (procS s).2.1 ∧ (procS s).1.2 ≤ 65535 := by
  have h1 : (uS 65535 (bS s).2).2.2 = 0 := h
  obtain ⟨g1, g2, g3, _⟩ := uS_ok h1
  obtain ⟨k1, k2⟩ := bS_ok g1
  refine ⟨k1, ?_, g3⟩
  rw [k2, g2]
  have e : u8 ((bS s).1.toNat : Int) = (bS s).1 := by
    show UInt8.ofNat ((bS s).1.toNat : Int).toNat = _
    rw [Int.toNat_natCast]; simp
  show _ = (u8 ((bS s).1.toNat : Int) :: putU (((uS 65535 (bS s).2).1 : Int)).toNat) ++ (uS 65535 (bS s).2).2.1
  rw [e, Int.toNat_natCast]; rfl
theorem textS_put {most : Nat} {l r : List UInt8} (hl : l.length ≤ most) (h64 : l.length < 18446744073709551616) : textS most (putU l.length ++ (l ++ r), 0) = (l, (r, 0)) := by
  simp only [textS]
  rw [uS_put h64 hl]
  rw [if_neg (by simp), if_neg (by simp)]
  simp
theorem textS_ok {most : Nat} {s : St} (h : (textS most s).2.2 = 0) : s.2 = 0 ∧ s.1 = putU (textS most s).1.length ++ ((textS most s).1 ++ (textS most s).2.1) ∧ (textS most s).1.length ≤ most := by
  unfold textS at h ⊢
  dsimp only at h ⊢
  split at h
  · rename_i he; exact absurd h he
  · rename_i he
    rw [if_neg he]
    split at h
    · exact absurd h (show ¬ (6 : Int) = 0 by decide)
    · rename_i hv
      rw [if_neg hv]
      obtain ⟨g1, g2, g3, _⟩ := uS_ok (by simpa using he)
      have e : ((uS most s).2.1.take (uS most s).1).length = (uS most s).1 := by rw [List.length_take]; omega
      dsimp only
      rw [e, List.take_append_drop]
      exact ⟨g1, g2, g3⟩
theorem flagS_put {f : Bool} {r : List UInt8} : flagS (flagB f :: r, 0) = (f, (r, 0)) := by cases f <;> rfl
theorem flagS_ok {s : St} (h : (flagS s).2.2 = 0) : s.2 = 0 ∧ s.1 = flagB (flagS s).1 :: (flagS s).2.1 := by
  unfold flagS at h ⊢
  dsimp only at h ⊢
  by_cases hb : (bS s).1.toNat > 1
  · rw [if_pos hb] at h
    have : (failS (bS s).2 6).2 = 6 := by rw [failS, if_pos (bS_err hb)]
    rw [this] at h; exact absurd h (by decide)
  · rw [if_neg hb] at h ⊢
    obtain ⟨k1, k2⟩ := bS_ok h
    refine ⟨k1, ?_⟩
    rw [k2]; congr 1
    generalize (bS s).1 = c at hb
    have hc : c = 0 ∨ c = 1 := by
      rcases (show c.toNat = 0 ∨ c.toNat = 1 by omega) with h | h
      · exact .inl (UInt8.toNat_inj.1 h)
      · exact .inr (UInt8.toNat_inj.1 h)
    rcases hc with rfl | rfl <;> rfl
theorem endS_ok {s : St} (h : endS s = 0) : s = ([], 0) := by
  unfold endS at h
  split at h
  · rename_i he; exact absurd h he
  · rename_i he
    split at h
    · rename_i hs
      obtain ⟨a, b⟩ := s
      have : b = 0 := by simpa using he
      subst this
      have : a = [] := hs
      rw [this]
    · exact absurd h (by decide)
/-! ### a packet, there and back -/
theorem bad_no {p : Pe} (h : ¬ p.bad = true) : rightP p.fn p.fl = true ∧ rightP p.tn p.tl = true ∧ (p.has = false → p.body = []) := by
  simp only [Pe.bad, Bool.or_eq_true, Bool.and_eq_true, Bool.not_eq_true', decide_eq_true_eq, not_or, not_and, Bool.not_eq_false] at h
  refine ⟨h.1.1, h.1.2, fun hh => List.eq_nil_of_length_eq_zero ?_⟩
  have := h.2 hh; omega
theorem u8_back {n : Int} (h : 0 ≤ n ∧ n < 256) : ((u8 n).toNat : Int) = n := u8I h
theorem there_back {p : Pe} (hi : PeIn p) (h0 : (frS p).2 = 0) : unS (frS p).1 = (p, 0) := by
  unfold frS at h0 ⊢
  split at h0
  · exact absurd h0 (show ¬ (1 : Int) = 0 by decide)
  rename_i hb
  split at h0
  · exact absurd h0 (show ¬ (5 : Int) = 0 by decide)
  rename_i hbig
  rw [if_neg hb, if_neg hbig]
  obtain ⟨r1, r2, r3⟩ := bad_no hb
  have hl := len_sumd (frB p)
  have hk : (sumd (frB p)).take ((sumd (frB p)).length - 4) = frB p := by
    rw [hl, Nat.add_sub_cancel, sumd]; exact List.take_left' rfl
  show unS (sumd (frB p)) = (p, 0)
  rw [unS, if_neg hbig, if_neg (by omega), hk, if_pos rfl]
  have hbl : p.body.length ≤ 524288 := by
    by_cases hh : p.has = true
    · have : (frB p).length ≥ p.body.length := by
        rw [frB, if_pos hh]; simp only [List.length_append]; omega
      omega
    · rw [r3 (by simpa using hh)]; simp
  have e : frB p = putP p.fn p.fl ++ (putP p.tn p.tl ++ (putU p.sq ++ (putU p.ak ++ (flagB p.has :: (if p.has then putU p.body.length ++ p.body else []))))) := by
    rw [frB]; simp only [List.append_assoc, List.singleton_append]
  have u1 : p.sq ≤ M64 := by have := hi.sq; show p.sq ≤ 18446744073709551615; omega
  have u2 : p.ak ≤ M64 := by have := hi.ak; show p.ak ≤ 18446744073709551615; omega
  have e0 : p.fl.toNat = p.fl := Int.toNat_of_nonneg hi.fl.1
  have e1 : p.tl.toNat = p.tl := Int.toNat_of_nonneg hi.tl.1
  have fin : ∀ (has : Bool) (body : List UInt8), has = p.has → body = p.body → unE (u8 p.fn, p.fl.toNat) (u8 p.tn, p.tl.toNat) p.sq p.ak has body 0 = (p, 0) := fun has body h1 h2 => by
    subst h1; subst h2
    rw [unE_ok (by dsimp only; rw [u8_back hi.fn, u8_back hi.tn, e0, e1]; exact ⟨r1, r2⟩)]
    dsimp only
    rw [u8_back hi.fn, u8_back hi.tn, e0, e1]
  simp only [unT]
  rw [e, procS_put hi.fn hi.fl]
  dsimp only
  rw [procS_put hi.tn hi.tl]
  dsimp only
  rw [uS_put hi.sq u1]
  dsimp only
  rw [uS_put hi.ak u2]
  dsimp only
  rw [unT2, flagS_put]
  dsimp only
  by_cases hh : p.has = true
  · rw [if_pos hh, if_pos hh]
    have ht := textS_put (most := 524288) (l := p.body) (r := []) hbl (by omega)
    rw [List.append_nil] at ht
    rw [ht]
    exact fin _ _ rfl rfl
  · rw [if_neg hh, if_neg hh]
    exact fin _ _ rfl (r3 (by simpa using hh)).symm
theorem back_there {l : List UInt8} (h0 : (unS l).2 = 0) : frS (unS l).1 = (l, 0) ∧ PeIn (unS l).1 ∧ (unS l).1.body.length ≤ 524288 := by
  unfold unS at h0 ⊢
  split at h0
  · exact absurd h0 (show ¬ (5 : Int) = 0 by decide)
  rename_i hbig
  split at h0
  · exact absurd h0 (show ¬ (7 : Int) = 0 by decide)
  rename_i h4
  split at h0
  rotate_left
  · exact absurd h0 (show ¬ (7 : Int) = 0 by decide)
  rename_i hs
  rw [if_neg hbig, if_neg h4, if_pos hs]
  generalize hk : l.take (l.length - 4) = k at hs h0 ⊢
  clear hk
  simp only [unT, unT2] at h0 ⊢
  generalize ha : procS (k, 0) = a at h0 ⊢
  generalize hb : procS a.2 = b at h0 ⊢
  generalize hc : uS M64 b.2 = c at h0 ⊢
  generalize hd : uS M64 c.2 = d at h0 ⊢
  generalize hf : flagS d.2 = f at h0 ⊢
  generalize ht : (if f.1 = true then textS 524288 f.2 else ([], f.2)) = t at h0 ⊢
  have he : endS t.2 = 0 := by
    by_cases he : endS t.2 = 0
    · exact he
    · rw [unE_err he] at h0; exact absurd h0 he
  rw [he] at h0 ⊢
  by_cases hr : rightP (a.1.1.toNat : Int) (a.1.2 : Int) = true ∧ rightP (b.1.1.toNat : Int) (b.1.2 : Int) = true
  rotate_left
  · rw [unE_no hr] at h0; exact absurd h0 (show ¬ (6 : Int) = 0 by decide)
  rw [unE_ok hr]
  have hte := endS_ok he
  have ft : f.2.2 = 0 ∧ (f.1 = true → f.2.1 = putU t.1.length ++ t.1) ∧ (f.1 = false → f.2.1 = [] ∧ t.1 = []) ∧ t.1.length ≤ 524288 := by
    by_cases hh : f.1 = true
    · rw [if_pos hh] at ht
      have := textS_ok (most := 524288) (s := f.2) (by rw [ht, hte])
      rw [ht, hte] at this
      rw [List.append_nil] at this
      exact ⟨this.1, fun _ => this.2.1, fun h => (Bool.false_ne_true (h.symm.trans hh)).elim, this.2.2⟩
    · rw [if_neg hh] at ht
      rw [← ht] at hte
      have hte : f.2 = ([], 0) := hte
      rw [← ht, hte]
      exact ⟨rfl, fun h => absurd h hh, fun _ => ⟨rfl, rfl⟩, by simp⟩
  obtain ⟨f0, f1, f2, f3⟩ := ft
  have gf := flagS_ok (s := d.2) (by rw [hf]; exact f0)
  rw [hf] at gf
  have gd := uS_ok (most := M64) (s := c.2) (by rw [hd]; exact gf.1)
  rw [hd] at gd
  have gc := uS_ok (most := M64) (s := b.2) (by rw [hc]; exact gd.1)
  rw [hc] at gc
  have gb := procS_ok (s := a.2) (by rw [hb]; exact gc.1)
  rw [hb] at gb
  have ga := procS_ok (s := (k, 0)) (by rw [ha]; exact gb.1)
  rw [ha] at ga
  have hT : f.2.1 = if f.1 then putU t.1.length ++ t.1 else [] := by
    by_cases hh : f.1 = true
    · rw [if_pos hh, f1 hh]
    · rw [if_neg hh, (f2 (by simpa using hh)).1]
  have hfr : frB ⟨a.1.1.toNat, a.1.2, b.1.1.toNat, b.1.2, c.1, d.1, f.1, t.1⟩ = k := by
    have h1 : k = putP (a.1.1.toNat : Int) (a.1.2 : Int) ++ a.2.1 := ga.2.1
    rw [h1, gb.2.1, gc.2.1, gd.2.1, gf.2, hT, frB]
    simp only [List.append_assoc, List.singleton_append]
  have hnb : ¬ (Pe.bad ⟨a.1.1.toNat, a.1.2, b.1.1.toNat, b.1.2, c.1, d.1, f.1, t.1⟩) = true := by
    simp only [Pe.bad, hr.1, hr.2]
    cases hh : f.1 with
    | true => simp
    | false => rw [(f2 hh).2]; simp
  refine ⟨?_, ⟨⟨Int.natCast_nonneg _, ?_⟩, ⟨Int.natCast_nonneg _, ?_⟩, ⟨Int.natCast_nonneg _, ?_⟩, ⟨Int.natCast_nonneg _, ?_⟩, gc.2.2.2, gd.2.2.2, ?_⟩, f3⟩
  · rw [frS, if_neg hnb, hfr, hs, if_neg hbig]
  · have := a.1.1.toNat_lt; show ((a.1.1.toNat : Nat) : Int) < 256; omega
  · have := ga.2.2; show ((a.1.2 : Nat) : Int) < 65536; omega
  · have := b.1.1.toNat_lt; show ((b.1.1.toNat : Nat) : Int) < 256; omega
  · have := gb.2.2; show ((b.1.2 : Nat) : Int) < 65536; omega
  · show t.1.length ≤ _; omega
end Go.Proofs
namespace Go.Proofs
open Go X RowKit
/-! ### the law of frames -/
theorem l_WireFrames (w : World) (p : Pk) (q : Sl) (b : List UInt8) (hp : bsM (memOf w) p.q p.body) (hb : bsM (memOf w) q b) (hi : PeIn p.er) (hbq : b.length ≤ q.2) : Calls Try.prog 5 #[.agg p.row.toArray, slV q b.length] w (LawR w) := by
  refine x_WireFrames _ _ _ _ _ _ _ _ _ _ _ _ _ w _ ?_
  by_cases hlen : p.body.length ≤ 2000 ∧ b.length ≤ 2000
  rotate_left
  · rw [if_neg (by simp only [beq_iff_eq, Bool.or_eq_false_iff, decide_eq_false_iff_not]; omega)]
    intro w1 L2 h1 g1
    exact ((lawStart w).hidL h1 g1).gives g_knows fun w4 k4 C => ⟨_, rfl, k4, rfl, Ctx.at_ C⟩
  rw [if_pos (by simp only [beq_iff_eq, Bool.or_eq_false_iff, decide_eq_false_iff_not]; omega)]
  obtain ⟨hl1, hl2⟩ := hlen
  intro w6 L7 h6 g6
  refine ((lawStart w).hidL h6 g6).gives g_knows fun w9 k9 C => ⟨_, rfl, k9, ?_⟩
  rw [if_neg (by decide)]
  refine (c_Packet p (by omega)).call (As := []) C hp fun q0 m1 w12 hk hm1 hq0 C => ⟨_, _, _, _, _, _, _, _, _, _, rfl, hk, ?_⟩
  replace hp := hp.mono hm1
  replace hb := hb.mono hm1
  have cF : Ctr Try.prog 18 #[.agg (Pk.row { p with q := q0 }).toArray] (fun m => bsM m q0 p.body) [] (fun q : Sl => .tuple #[slV q (frS p.er).1.length, .int .i64 (frS p.er).2]) (fun _ _ => True) (fun q => [ow q (frS p.er).1]) := c_Frame { p with q := q0 } hi
  refine cF.call (As := []) C hq0 fun q1 m2 w24 hk hm2 _ C => ⟨_, _, _, _, rfl, hk, ?_⟩
  have hxc : (frS p.er).1.length ≤ q1.2 := (Ctx.slCap C).1
  obtain ⟨m3, hm3, hx, C⟩ := Ctx.slShare C
  replace hx : bsM m3 q1 (frS p.er).1 := hx
  replace hp := (hp.mono hm2).mono hm3
  replace hb := (hb.mono hm2).mono hm3
  refine (c_r7Frame p hi (by omega)).call (As := []) C hp fun q2 m4 w30 hk hm4 _ C => ⟨_, _, _, _, rfl, hk, ?_⟩
  obtain ⟨m5, hm5, hy, C⟩ := Ctx.slShare C
  replace hy : bsM m5 q2 (frS p.er).1 := hy
  replace hx := (hx.mono hm4).mono hm5
  replace hp := (hp.mono hm4).mono hm5
  replace hb := (hb.mono hm4).mono hm5
  clear hq0
  obtain ⟨q3, c3, w38, hr, hk3, C⟩ := ow_app0 (ow_new C) hb (by omega)
  have hcc := C.slCap.1
  obtain ⟨m6, hm6, hc, C⟩ := C.slShare
  refine ⟨q3, _, c3, w38, hr, hk3, ?_⟩
  replace hx := hx.mono hm6
  replace hy := hy.mono hm6
  replace hp := hp.mono hm6
  replace hb := hb.mono hm6
  refine (c_Unframe (q3, c3) b (by omega) hcc).call (As := []) C hc fun z m7 w40 hk hm7 hz1 C => ⟨_, _, _, _, _, _, _, _, _, _, _, rfl, hk, fun w52 L53 h52 g52 => ?_⟩
  replace hx := hx.mono hm7
  replace hy := hy.mono hm7
  replace hp := hp.mono hm7
  replace hb := hb.mono hm7
  clear hc
  refine (c_r7Unframe q b (by omega) hbq).call (As := []) (C.hidL h52 g52) hb fun z2 m8 w55 hk hm8 hz2 C => ⟨_, _, _, _, _, _, _, _, _, _, _, rfl, hk, fun w67 L68 h67 g67 => ?_⟩
  replace hx := hx.mono hm8
  replace hy := hy.mono hm8
  replace hp := hp.mono hm8
  replace hb := hb.mono hm8
  replace hz1 : z.er = (unS b).1 ∧ bsM m8 z.q z.body := ⟨hz1.1, hz1.2.mono hm8⟩
  replace C := C.hidL h67 g67
  have s1 := run_str (P := Try.prog) (e := 5) Try.underlying66 Try.underlying5 Try.underlying9 (C.src hx) ⟨_, _, rfl⟩
  have s2 := run_str (P := Try.prog) (e := 5) Try.underlying66 Try.underlying5 Try.underlying9 (C.src hy) ⟨_, _, rfl⟩
  refine ⟨_, _, s1, X.kept_refl _ _, _, _, s2, X.kept_refl _ _, ?_⟩
  rw [if_pos (by rw [toBA_beq, decide_eq_true rfl]; rfl)]
  refine C.gives (c_num _) fun w74 k74 C => ⟨_, rfl, k74, ?_⟩
  rw [if_pos (by simp)]
  refine (c_samePacket z2 z).call (As := []) C ⟨hz2.2, hz1.2⟩ fun _ m9 w77 hk hm9 _ C => ⟨_, rfl, hk, ?_⟩
  rw [decide_eq_true (show z2.er = z.er by rw [hz2.1, hz1.1]), if_pos (by decide)]
  replace hx := hx.mono hm9
  replace hp := hp.mono hm9
  replace hb := hb.mono hm9
  replace hz1 : z.er = (unS b).1 ∧ bsM m9 z.q z.body := ⟨hz1.1, hz1.2.mono hm9⟩
  clear hy hz2 s1 s2
  refine C.gives (c_num _) fun w80 k80 C => ⟨_, rfl, k80, ?_⟩
  rw [if_neg (by simp)]
  refine C.gives (c_num _) fun w83 k83 C => ⟨_, rfl, k83, ?_⟩
  have hxl : (frS p.er).1.length ≤ 524288 := by
    unfold frS
    split
    · simp
    · split
      · simp
      · rename_i h; show (sumd (frB p.er)).length ≤ _; omega
  by_cases hf0 : (((frS p.er).2 == 0) = true)
  · rw [if_pos hf0]
    have hF0 : (frS p.er).2 = 0 := by simpa using hf0
    have htb := there_back hi hF0
    refine (c_Unframe q1 (frS p.er).1 (by omega) hxc).call (As := []) C hx fun z3 m10 w102 hk hm10 hz3 C => ⟨_, _, _, _, _, _, _, _, _, _, _, rfl, hk, fun w114 L115 h114 g114 => ?_⟩
    replace hp := hp.mono hm10
    replace hb := hb.mono hm10
    replace hz1 : z.er = (unS b).1 ∧ bsM m10 z.q z.body := ⟨hz1.1, hz1.2.mono hm10⟩
    refine (C.hidL h114 g114).gives (c_num _) fun w117 k117 C => ⟨_, rfl, k117, ?_⟩
    rw [htb] at hz3
    rw [htb, if_pos (by rfl)]
    refine (c_samePacket p z3).call (As := []) C ⟨hp, hz3.2⟩ fun _ m11 w120 hk hm11 _ C => ⟨_, rfl, hk, ?_⟩
    rw [decide_eq_true (show p.er = z3.er from hz3.1.symm), if_neg (by decide)]
    replace hb := hb.mono hm11
    replace hz1 : z.er = (unS b).1 ∧ bsM m11 z.q z.body := ⟨hz1.1, hz1.2.mono hm11⟩
    refine C.gives (c_num _) fun w123 k123 C => ⟨_, rfl, k123, ?_⟩
    by_cases hu0 : (((unS b).2 == 0) = true)
    · rw [if_pos hu0]
      have hU0 : (unS b).2 = 0 := by simpa using hu0
      obtain ⟨k1, k2, k3⟩ := back_there hU0
      rw [← hz1.1] at k1 k2 k3
      refine (c_Frame z k2).call (As := []) C hz1.2 fun q7 m7 w89 hk hm7 _ C => ⟨_, _, _, _, rfl, hk, ?_⟩
      obtain ⟨m8, hm8, hf7, C⟩ := Ctx.slShare C
      refine C.gives (c_num _) fun w95 k95 C => ⟨_, rfl, k95, ?_⟩
      have s1 := run_str (P := Try.prog) (e := 5) Try.underlying66 Try.underlying5 Try.underlying9 (C.src hf7) ⟨_, _, rfl⟩
      have s2 := run_str (P := Try.prog) (e := 5) Try.underlying66 Try.underlying5 Try.underlying9 (C.src ((hb.mono hm7).mono hm8)) ⟨_, _, rfl⟩
      rw [if_pos (by rw [k1]; rfl)]
      exact ⟨_, _, s1, X.kept_refl _ _, _, _, s2, X.kept_refl _ _, by rw [toBA_beq, k1, decide_eq_true rfl, Bool.true_and], Ctx.at_ C⟩
    · rw [if_neg hu0]
      exact ⟨rfl, Ctx.at_ C⟩
  · rw [if_neg hf0]
    refine C.gives (c_num _) fun w86 k86 C => ⟨_, rfl, k86, ?_⟩
    by_cases hu0 : (((unS b).2 == 0) = true)
    · rw [if_pos hu0]
      have hU0 : (unS b).2 = 0 := by simpa using hu0
      obtain ⟨k1, k2, k3⟩ := back_there hU0
      rw [← hz1.1] at k1 k2 k3
      refine (c_Frame z k2).call (As := []) C hz1.2 fun q7 m7 w89 hk hm7 _ C => ⟨_, _, _, _, rfl, hk, ?_⟩
      obtain ⟨m8, hm8, hf7, C⟩ := Ctx.slShare C
      refine C.gives (c_num _) fun w95 k95 C => ⟨_, rfl, k95, ?_⟩
      have s1 := run_str (P := Try.prog) (e := 5) Try.underlying66 Try.underlying5 Try.underlying9 (C.src hf7) ⟨_, _, rfl⟩
      have s2 := run_str (P := Try.prog) (e := 5) Try.underlying66 Try.underlying5 Try.underlying9 (C.src ((hb.mono hm7).mono hm8)) ⟨_, _, rfl⟩
      rw [if_pos (by rw [k1]; rfl)]
      exact ⟨_, _, s1, X.kept_refl _ _, _, _, s2, X.kept_refl _ _, by rw [toBA_beq, k1, decide_eq_true rfl, Bool.true_and], Ctx.at_ C⟩
    · rw [if_neg hu0]
      exact ⟨rfl, Ctx.at_ C⟩
/-! ### the law of spoilt frames -/
theorem sum4_word (l : List UInt8) : ∃ a b c d, sum4 l = [a, b, c, d] ∧ word4 a b c d = sumB l := ⟨_, _, _, _, rfl, word4_of _⟩
theorem reg_sumd (l : List UInt8) : regZ onesZ (sumd l) = itZ 32 onesZ := by
  obtain ⟨a, b, c, d, h, hw⟩ := sum4_word l
  rw [sumd, regZ_app, h]
  exact reg_sum.2 hw
/-- four bytes that stand side by side, changed -/
theorem spoilt {u v : List UInt8} {a b c d a' b' c' d' : UInt8} {k : List UInt8} (h : sumd k = u ++ [a, b, c, d] ++ v) (hm : word4 a' b' c' d' ≠ 0#32) (hlen : (sumd k).length ≤ 524288) : unS (u ++ [a ^^^ a', b ^^^ b', c ^^^ c', d ^^^ d'] ++ v) = (zE, 7) := by
  have hl : (u ++ [a ^^^ a', b ^^^ b', c ^^^ c', d ^^^ d'] ++ v).length = (sumd k).length := by rw [h]; simp
  have h4 := len_sumd k
  have hb := burst onesZ u v a b c d a' b' c' d' hm
  rw [← h, reg_sumd] at hb
  rw [unS, if_neg (by omega), if_neg (by omega)]
  rw [if_neg]
  intro hs
  apply hb
  rw [← hs, reg_sumd]
def spoil (x : List UInt8) (o : Nat) (ms : Nat → UInt8) : Nat → List UInt8
  | 0 => x
  | i + 1 => (spoil x o ms i).set (o + i) ((spoil x o ms i).getD (o + i) 0 ^^^ ms i)
theorem spoil_len (x : List UInt8) (o : Nat) (ms : Nat → UInt8) : ∀ i, (spoil x o ms i).length = x.length
  | 0 => rfl
  | i + 1 => by rw [spoil, List.length_set, spoil_len x o ms i]
theorem set_mid (u p t : List UInt8) (z y : UInt8) (o i : Nat) (ho : u.length = o) (hi : p.length = i) : (u ++ p ++ z :: t).set (o + i) y = u ++ p ++ y :: t := by
  subst ho; subst hi
  rw [← List.length_append, List.set_append_right _ _ (Nat.le_refl _), Nat.sub_self]; rfl
theorem get_mid (u p t : List UInt8) (z : UInt8) (o i : Nat) (ho : u.length = o) (hi : p.length = i) : (u ++ p ++ z :: t).getD (o + i) 0 = z := by
  subst ho; subst hi
  rw [← List.length_append, List.getD_eq_getElem?_getD, List.getElem?_append_right (Nat.le_refl _), Nat.sub_self]; rfl
theorem spoil_4 (u v : List UInt8) (a b c d : UInt8) (ms : Nat → UInt8) : spoil (u ++ [a, b, c, d] ++ v) u.length ms 4 = u ++ [a ^^^ ms 0, b ^^^ ms 1, c ^^^ ms 2, d ^^^ ms 3] ++ v := by
  have s1 : spoil (u ++ [a, b, c, d] ++ v) u.length ms 1 = u ++ [a ^^^ ms 0, b, c, d] ++ v := by
    have e : u ++ [a, b, c, d] ++ v = u ++ [] ++ a :: ([b, c, d] ++ v) := by simp
    rw [spoil, spoil, e, get_mid u [] _ a _ 0 rfl rfl, set_mid u [] _ a _ _ 0 rfl rfl]; simp
  have s2 : spoil (u ++ [a, b, c, d] ++ v) u.length ms 2 = u ++ [a ^^^ ms 0, b ^^^ ms 1, c, d] ++ v := by
    have e : u ++ [a ^^^ ms 0, b, c, d] ++ v = u ++ [a ^^^ ms 0] ++ b :: ([c, d] ++ v) := by simp
    rw [spoil, s1, e, get_mid u [a ^^^ ms 0] _ b _ 1 rfl rfl, set_mid u [a ^^^ ms 0] _ b _ _ 1 rfl rfl]; simp
  have s3 : spoil (u ++ [a, b, c, d] ++ v) u.length ms 3 = u ++ [a ^^^ ms 0, b ^^^ ms 1, c ^^^ ms 2, d] ++ v := by
    have e : u ++ [a ^^^ ms 0, b ^^^ ms 1, c, d] ++ v = u ++ [a ^^^ ms 0, b ^^^ ms 1] ++ c :: ([d] ++ v) := by simp
    rw [spoil, s2, e, get_mid u [a ^^^ ms 0, b ^^^ ms 1] _ c _ 2 rfl rfl, set_mid u [a ^^^ ms 0, b ^^^ ms 1] _ c _ _ 2 rfl rfl]; simp
  have e : u ++ [a ^^^ ms 0, b ^^^ ms 1, c ^^^ ms 2, d] ++ v = u ++ [a ^^^ ms 0, b ^^^ ms 1, c ^^^ ms 2] ++ d :: v := by simp
  rw [spoil, s3, e, get_mid u [a ^^^ ms 0, b ^^^ ms 1, c ^^^ ms 2] _ d _ 3 rfl rfl, set_mid u [a ^^^ ms 0, b ^^^ ms 1, c ^^^ ms 2] _ d _ _ 3 rfl rfl]; simp
theorem cut4 (x : List UInt8) (o : Nat) (h : o + 3 < x.length) : ∃ u a b c d v, x = u ++ [a, b, c, d] ++ v ∧ u.length = o := by
  refine ⟨x.take o, x[o], x[o + 1], x[o + 2], x[o + 3], x.drop (o + 4), ?_, by rw [List.length_take]; omega⟩
  have : x.drop o = [x[o], x[o + 1], x[o + 2], x[o + 3]] ++ x.drop (o + 4) := by
    rw [drop_cons (show o < x.length by omega), drop_cons (show o + 1 < x.length by omega), drop_cons (show o + 1 + 1 < x.length by omega), drop_cons (show o + 1 + 1 + 1 < x.length by omega)]; rfl
  rw [List.append_assoc, ← this, List.take_append_drop]
theorem splice_set (l : List UInt8) (i : Nat) (hi : i < l.length) (c : UInt8) : splice (byV l) i [Value.int .u8 (c.toNat : Int)] = byV (l.set i c) := by
  rw [List.set_eq_take_append_cons_drop, if_pos hi, byV_append, splice, byV_take]
  have : byV (c :: l.drop (i + 1)) = [Value.int .u8 (c.toNat : Int)] ++ byV (l.drop (i + 1)) := rfl
  rw [this, byV_drop, List.append_assoc]; rfl
def mB (c : Int) (i : Nat) : UInt8 := UInt8.ofNat (c.toNat / 2 ^ (8 * i))
theorem xor_step (a : UInt8) (c : Int) (i : Nat) (hc : 0 ≤ c) (hi : i < 4) : IntKind.wrap .u8 ((((BitVec.ofInt 8 ((a.toNat : Nat) : Int) ^^^ BitVec.ofInt 8 (IntKind.u8.wrap (c.fdiv (2 ^ min (IntKind.u64.wrap (IntKind.i64.wrap (8 * (i : Int)))).toNat 32)))).toNat) : Nat) : Int) = (((a ^^^ mB c i).toNat : Nat) : Int) := by
  rw [w_i64 (n := 8 * (i : Int)) (by omega) (by omega), w_u64 (by omega) (by omega)]
  have e1 : (8 * (i : Int)).toNat = 8 * i := by omega
  rw [e1, Nat.min_eq_left (by omega)]
  obtain ⟨n, rfl⟩ : ∃ n : Nat, c = n := ⟨c.toNat, by omega⟩
  have e2 : (2 : Int) ^ (8 * i) = ((2 ^ (8 * i) : Nat) : Int) := by simp
  have e3 : (n : Int).fdiv ((2 ^ (8 * i) : Nat) : Int) = ((n / 2 ^ (8 * i) : Nat) : Int) := by rw [Int.fdiv_eq_ediv_of_nonneg _ (Int.natCast_nonneg _)]; rfl
  rw [e2, e3]
  have e4 : mB (n : Int) i = UInt8.ofNat (n / 2 ^ (8 * i)) := rfl
  rw [e4]
  generalize n / 2 ^ (8 * i) = y
  have e5 : IntKind.u8.wrap (y : Int) = (((UInt8.ofNat y).toNat : Nat) : Int) := by simp [IntKind.wrap, IntKind.bits, IntKind.signed]
  rw [e5]
  generalize UInt8.ofNat y = z
  have e6 : ∀ b : UInt8, BitVec.ofInt 8 ((b.toNat : Nat) : Int) = b.toBitVec := fun b => by
    apply BitVec.eq_of_toNat_eq
    rw [BitVec.toNat_ofInt]
    have := b.toNat_lt
    show (((b.toNat : Nat) : Int) % 256).toNat = b.toNat
    omega
  rw [e6, e6]
  have e7 : (a.toBitVec ^^^ z.toBitVec).toNat = (a ^^^ z).toNat := rfl
  rw [e7]
  have := (a ^^^ z).toNat_lt
  exact w_u8 (by omega) (by omega)
theorem place (b : Int) (K : Nat) (h4 : 4 ≤ K) (hK : K ≤ 1000000) : ∃ o : Nat, (IntKind.i64.wrap (IntKind.i64.wrap (b.tmod (IntKind.i64.wrap ((K : Int) - 3)) + (K : Int)) - 3)).tmod (IntKind.i64.wrap ((K : Int) - 3)) = o ∧ o + 3 < K := by
  have e3 : IntKind.i64.wrap ((K : Int) - 3) = (K : Int) - 3 := w_i64 (by omega) (by omega)
  rw [e3]
  have hb : -((K : Int) - 3) < b.tmod ((K : Int) - 3) ∧ b.tmod ((K : Int) - 3) < (K : Int) - 3 := by
    have h1 := Int.tmod_lt_of_pos b (show 0 < (K : Int) - 3 by omega)
    refine ⟨?_, h1⟩
    have h2 := Int.tmod_lt_of_pos (-b) (show 0 < (K : Int) - 3 by omega)
    rw [Int.neg_tmod] at h2; omega
  generalize b.tmod ((K : Int) - 3) = t at hb
  rw [w_i64 (n := t + (K : Int)) (by omega) (by omega), w_i64 (by omega) (by omega)]
  have h0 := Int.tmod_nonneg ((K : Int) - 3) (show 0 ≤ t + (K : Int) - 3 by omega)
  have h1 := Int.tmod_lt_of_pos (t + (K : Int) - 3) (show 0 < (K : Int) - 3 by omega)
  exact ⟨((t + (K : Int) - 3).tmod ((K : Int) - 3)).toNat, (Int.toNat_of_nonneg h0).symm, by omega⟩
theorem mask_ne {c : Int} (h0 : 0 ≤ c) (h32 : c < 4294967296) (h : c ≠ 0) : word4 (mB c 0) (mB c 1) (mB c 2) (mB c 3) ≠ 0#32 := by
  intro hz
  obtain ⟨z0, z1, z2, z3⟩ := word4_zero hz
  have e : ∀ n : Nat, UInt8.ofNat n = 0 → n % 256 = 0 := fun n hn => congrArg UInt8.toNat hn
  have g0 := e _ z0
  have g1 := e _ z1
  have g2 := e _ z2
  have g3 := e _ z3
  simp only [Nat.mul_zero, Nat.pow_zero, Nat.div_one, Nat.mul_one, Nat.reduceMul, Nat.reducePow] at g0 g1 g2 g3
  omega
theorem slA_len {F0 : List Nat} {m0 m : Mem} {w0 w : World} {L : List Nat} {q : Option Addr} {n n' c : Nat} {cs : List Value} (h : n = n') (C : Ctx F0 m0 w0 w L m [slA (.slice q n c) n cs 5 1]) : Ctx F0 m0 w0 w L m [slA (.slice q n' c) n' cs 5 1] := by subst h; exact C
theorem l_WireSpoilt (w : World) (p : Pk) (b c : Int) (hp : bsM (memOf w) p.q p.body) (hi : PeIn p.er) (hb : -9223372036854775808 ≤ b ∧ b < 9223372036854775808) (hc : 0 ≤ c ∧ c < 4294967296) : Calls Try.prog 6 #[.agg p.row.toArray, .int .i64 b, .int .u32 c] w (LawR w) := by
  refine x_WireSpoilt _ _ _ _ _ _ _ _ _ _ _ _ w _ fun w1 L2 h1 g1 => ?_
  have hbl : p.body.length ≤ 140737488351232 := hi.b
  refine (c_Packet p (by omega)).call (As := []) ((lawStart w).hidL h1 g1) hp fun q0 m1 w4 hk hm1 hq0 C => ⟨_, _, _, _, _, _, _, _, _, _, rfl, hk, ?_⟩
  have cF : Ctr Try.prog 18 #[.agg (Pk.row { p with q := q0 }).toArray] (fun m => bsM m q0 p.body) [] (fun q : Sl => .tuple #[slV q (frS p.er).1.length, .int .i64 (frS p.er).2]) (fun _ _ => True) (fun q => [ow q (frS p.er).1]) := c_Frame { p with q := q0 } hi
  refine cF.call (As := []) C hq0 fun q1 m2 w16 hk hm2 _ C => ⟨_, _, _, _, rfl, hk, ?_⟩
  have C : Ctx [] (memOf w) w w16 L2 m2 [ow q1 (frS p.er).1] := C
  by_cases hbig : p.body.length > 2000
  · rw [if_neg (by simp only [beq_iff_eq, decide_eq_false_iff_not]; omega)]
    exact C.gives g_knows fun w22 k22 C => ⟨_, rfl, k22, rfl, Ctx.at_ C⟩
  rw [if_pos (by simp only [beq_iff_eq, decide_eq_false_iff_not]; omega)]
  refine C.gives (c_num _) fun w25 k25 C => ⟨_, rfl, k25, ?_⟩
  by_cases h0 : (frS p.er).2 = 0 ∧ c ≠ 0
  rotate_left
  · rw [if_neg (by show ¬ (((false || ((frS p.er).2 != 0)) || (c == 0)) == false) = true; simp only [Bool.false_or, beq_iff_eq, Bool.or_eq_false_iff, bne_eq_false_iff_eq, beq_eq_false_iff_ne]; exact h0)]
    exact C.gives g_knows fun w28 k28 C => ⟨_, rfl, k28, rfl, Ctx.at_ C⟩
  rw [if_pos (by show (((false || ((frS p.er).2 != 0)) || (c == 0)) == false) = true; simp only [Bool.false_or, beq_iff_eq, Bool.or_eq_false_iff, bne_eq_false_iff_eq, beq_eq_false_iff_ne]; exact h0)]
  refine C.gives g_knows fun w31 k31 C => ⟨_, rfl, k31, ?_⟩
  rw [if_neg (by decide)]
  have hx : (frS p.er).1 = sumd (frB p.er) ∧ (sumd (frB p.er)).length ≤ 524288 := by
    have hf := h0.1
    unfold frS at hf ⊢
    split at hf
    · exact absurd hf (show ¬ (1 : Int) = 0 by decide)
    rename_i hbd
    split at hf
    · exact absurd hf (show ¬ (5 : Int) = 0 by decide)
    rename_i hbg
    rw [if_neg hbd, if_neg hbg]
    exact ⟨rfl, by omega⟩
  have h4 := len_sumd (frB p.er)
  rw [hx.1] at C ⊢
  have hx2 := hx.2
  obtain ⟨x, hxe⟩ : ∃ x, x = sumd (frB p.er) := ⟨_, rfl⟩
  rw [← hxe] at C h4 hx2 ⊢
  clear hx
  obtain ⟨o, ho, ho3⟩ := place b x.length (by omega) (by omega)
  have hne : IntKind.wrap .i64 ((x.length : Int) - 3) ≠ 0 := by rw [w_i64 (by omega) (by omega)]; omega
  rw [ho]
  refine ⟨hne, hne, fun i w' L' => ∃ j : Nat, i = j ∧ j ≤ 4 ∧ Ctx [] (memOf w) w w' L' m2 [ow q1 (spoil x o (mB c) j)], fun i _ => (4 - i).toNat, ⟨0, rfl, by omega, C⟩, ?_⟩
  clear C
  rintro i w36 L37 _ ⟨j, rfl, hj, C⟩
  have hsl := spoil_len x o (mB c) j
  by_cases hj4 : j < 4
  · rw [if_pos (by simp only [decide_eq_true_eq]; omega)]
    have eo : IntKind.wrap .i64 ((o : Int) + (j : Int)) = ((o + j : Nat) : Int) := by rw [w_i64 (by omega) (by omega)]; omega
    have e8 : IntKind.wrap .i64 (8 * (j : Int)) = 8 * (j : Int) := w_i64 (by omega) (by omega)
    have ej : IntKind.wrap .i64 ((j : Int) + 1) = ((j + 1 : Nat) : Int) := by rw [w_i64 (by omega) (by omega)]; omega
    obtain ⟨a, ha, hcell⟩ := slA_cell C (o + j) (by omega)
    obtain ⟨q11, q12⟩ := q1
    have ha : q11 = some a := ha
    subst ha
    have hnew : (spoil x o (mB c) (j + 1)) = (spoil x o (mB c) j).set (o + j) ((spoil x o (mB c) j)[o + j]'(by omega) ^^^ mB c j) := by
      rw [spoil, List.getD_eq_getElem?_getD, List.getElem?_eq_getElem (by omega)]; rfl
    obtain ⟨a2, ha2, hsp, hth, hnl, D⟩ := C.slPut (o + j) (.int .u8 ((((spoil x o (mB c) j)[o + j]'(by omega) ^^^ mB c j).toNat : Nat) : Int)) [] (by rw [byV_len]; show o + j + 1 ≤ _; omega)
    obtain rfl : a = a2 := Option.some.inj ha2
    rw [splice_set _ _ (by omega), ← hnew] at D
    have hadd : (a.add ((o + j) * 1)).spot = none ∧ (a.add ((o + j) * 1)).block = a.block ∧ (a.add ((o + j) * 1)).off = a.off + (o + j) := by
      obtain ⟨ab, ao, asp⟩ := a
      simp only at hsp; subst hsp
      rw [Nat.mul_one, Addr.add_mid]; exact ⟨rfl, rfl, rfl⟩
    rw [eo, Int.toNat_natCast]
    refine ⟨by omega, by omega, ?_⟩
    rw [onSome_some]
    refine ⟨_, hcell, by rw [hadd.2.1]; exact hnl, by rw [e8, w_u64 (by omega) (by omega)]; omega, by omega, by omega, ?_⟩
    rw [onSome_some, hadd.2.1, hadd.2.2, xor_step _ _ _ hc.1 hj4, ej]
    refine ⟨hadd.1, hth, hnl, rfl, ⟨j + 1, rfl, hj4, ?_⟩, Nat.le_of_eq (by show (4 - ((j + 1 : Nat) : Int)).toNat + 1 = (4 - (j : Int)).toNat; omega)⟩
    have D2 : Ctx [] (memOf w) w _ L37 m2 [slA (.slice (some a) (spoil x o (mB c) j).length q12) (spoil x o (mB c) j).length (byV (spoil x o (mB c) (j + 1))) 5 1] := D
    exact slA_len (by rw [hsl, spoil_len]) D2
  · rw [if_neg (by simp only [decide_eq_true_eq]; omega)]
    have ej : j = 4 := by omega
    subst ej
    have hcap := C.slCap.1
    rw [hsl] at hcap
    obtain ⟨m3, hm3, hs, C⟩ := C.slShare
    obtain ⟨u, a, b', c', d, v, hcut, hu⟩ := cut4 x o ho3
    have hsp : unS (spoil x o (mB c) 4) = (zE, 7) := by
      subst hu
      rw [hcut, spoil_4]
      exact spoilt (k := frB p.er) (by rw [← hxe]; exact hcut) (mask_ne hc.1 hc.2 h0.2) (by rw [← hxe]; exact hx2)
    have hcall := c_Unframe q1 (spoil x o (mB c) 4) (by omega) (by omega)
    rw [hsl] at hcall
    refine hcall.call (As := []) C hs fun z m4 w39 hk hm4 hz C => ⟨_, _, _, _, _, _, _, _, _, _, _, rfl, hk, fun w51 L52 h51 g51 => ?_⟩
    rw [hsp] at hz ⊢
    refine (C.hidL h51 g51).gives (c_num _) fun w54 k54 C => ⟨_, rfl, k54, ?_, Ctx.at_ C⟩
    have hz1 : z.body = [] := congrArg Pe.body hz.1
    have hz2 : z.has = false := congrArg Pe.has hz.1
    rw [hz1, hz2]; rfl
end Go.Proofs
