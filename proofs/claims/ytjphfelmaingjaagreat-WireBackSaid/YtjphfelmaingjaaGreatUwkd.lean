import Derived.Test.YtjphfelmaingjaaGreatUwkc
import Derived.Test.YtjphfelmaingjaaGreatVwkc
import Derived.Test.YtjphfelmaingjaaGreatRows
import Derived.Test.YtjphfelmaingjaaGreatChecked
set_option linter.unusedVariables false
set_option linter.unusedSimpArgs false
set_option maxRecDepth 10000
set_option maxRecDepth 100000
namespace Go.Proofs
open Go X RowKit
/-! ### numbers, texts: there and back -/
theorem pow7 (i : Nat) : (2 : Nat) ^ (7 * (i + 1)) = 128 * 2 ^ (7 * i) := by rw [Nat.mul_add, Nat.pow_add, Nat.mul_comm]
theorem getU_put : ∀ (k n i v : Nat) (r : List UInt8), n < 128 ^ (k + 1) → i + k = 9 → (i > 0 → n > 0) → n < 2 ^ (64 - 7 * i) → getU i v (putU n ++ r) = some (v + n * 2 ^ (7 * i), r)
  | k, n, i, v, r, hk, hik, h0, h64 => by
    by_cases h : n < 128
    · have hc : (UInt8.ofNat n).toNat = n := by show n % 256 = n; omega
      have hbad : ¬ ((i = 9 ∧ (UInt8.ofNat n).toNat > 1) ∨ (i > 0 ∧ (UInt8.ofNat n).toNat = 0)) := by
        rw [hc]
        rintro (⟨h9, h1⟩ | ⟨h1, h2⟩)
        · subst h9; simp at h64; omega
        · have := h0 h1; omega
      rw [putU_lt h, List.singleton_append, getU, if_neg hbad, if_pos (by rw [hc]; omega), hc, Nat.mod_eq_of_lt (by omega)]
    · have hc : (UInt8.ofNat (n % 128 + 128)).toNat = n % 128 + 128 := by show (n % 128 + 128) % 256 = _; omega
      have hi9 : i ≠ 9 := fun h9 => by subst h9; simp at h64; omega
      have hbad : ¬ ((i = 9 ∧ (UInt8.ofNat (n % 128 + 128)).toNat > 1) ∨ (i > 0 ∧ (UInt8.ofNat (n % 128 + 128)).toNat = 0)) := by
        rw [hc]; omega
      rw [putU_ge h, List.cons_append, getU, if_neg hbad, if_neg (by rw [hc]; omega), hc]
      match k, hik, hk with
      | 0, hik, _ => exact absurd (by omega) hi9
      | k + 1, hik, hk =>
        have e64 : 2 ^ (64 - 7 * i) = 128 * 2 ^ (64 - 7 * (i + 1)) := by
          have : 64 - 7 * i = 7 + (64 - 7 * (i + 1)) := by omega
          rw [this, Nat.pow_add]
        have hn2 : n / 128 < 2 ^ (64 - 7 * (i + 1)) := by rw [e64] at h64; exact Nat.div_lt_of_lt_mul h64
        have hn3 : n / 128 < 128 ^ (k + 1) := by rw [Nat.pow_succ, Nat.mul_comm] at hk; exact Nat.div_lt_of_lt_mul hk
        rw [getU_put k (n / 128) (i + 1) _ r hn3 (by omega) (fun _ => by omega) hn2, pow7]
        congr 2
        have e : (n % 128 + 128) % 128 = n % 128 := by omega
        rw [e]
        have hd := Nat.div_add_mod n 128
        generalize n / 128 = a at hd ⊢
        generalize n % 128 = c at hd ⊢
        subst hd
        have e3 : a * (128 * 2 ^ (7 * i)) = 128 * a * 2 ^ (7 * i) := by rw [← Nat.mul_assoc, Nat.mul_comm a]
        rw [Nat.add_mul, e3]; omega
theorem getU_canon : ∀ (l : List UInt8) (i v n : Nat) (r : List UInt8), i ≤ 9 → getU i v l = some (n, r) → ∃ m, n = v + m * 2 ^ (7 * i) ∧ l = putU m ++ r ∧ m < 2 ^ (64 - 7 * i) ∧ (i > 0 → m > 0)
  | [], i, v, n, r, _, h => by cases h
  | c :: t, i, v, n, r, hi, h => by
    rw [getU] at h
    have hc256 := c.toNat_lt
    split at h
    · cases h
    · rename_i hbad
      split at h
      · rename_i h128
        simp only [Option.some.injEq, Prod.mk.injEq] at h
        obtain ⟨h1, h2⟩ := h
        subst h2
        refine ⟨c.toNat, by rw [← h1, Nat.mod_eq_of_lt (by omega)], by rw [putU_lt h128]; simp, ?_, fun hi0 => ?_⟩
        · by_cases h9 : i = 9
          · subst h9
            have : c.toNat ≤ 1 := by
              simp only [not_or, not_and] at hbad
              have := hbad.1 trivial; omega
            simp; omega
          · have : 2 ^ 8 ≤ 2 ^ (64 - 7 * i) := Nat.pow_le_pow_right (by omega) (by omega)
            omega
        · simp only [not_or, not_and] at hbad
          have := hbad.2 hi0; omega
      · rename_i h128
        have hi9 : i ≠ 9 := fun h9 => by
          simp only [not_or, not_and] at hbad
          have := hbad.1 h9; omega
        obtain ⟨m, h1, h2, h3, h4⟩ := getU_canon t (i + 1) _ n r (by omega) h
        have e64 : 2 ^ (64 - 7 * i) = 128 * 2 ^ (64 - 7 * (i + 1)) := by
          have : 64 - 7 * i = 7 + (64 - 7 * (i + 1)) := by omega
          rw [this, Nat.pow_add]
        have hm := h4 (by omega)
        refine ⟨c.toNat % 128 + 128 * m, ?_, ?_, ?_, fun _ => by omega⟩
        · rw [h1, pow7, Nat.add_mul, ← Nat.add_assoc, Nat.mul_left_comm m, Nat.mul_assoc]
        · have hge : ¬ (c.toNat % 128 + 128 * m < 128) := by omega
          have e1 : (c.toNat % 128 + 128 * m) % 128 + 128 = c.toNat := by omega
          have e2 : (c.toNat % 128 + 128 * m) / 128 = m := by omega
          rw [putU_ge hge, e1, e2, h2]; simp
        · rw [e64]; omega
theorem uS_put {n most : Nat} {r : List UInt8} (hn : n < 18446744073709551616) (hm : n ≤ most) : uS most (putU n ++ r, 0) = (n, (r, 0)) := by
  rw [uS, if_neg (by simp), getU_put 9 n 0 0 r (Nat.lt_of_lt_of_le hn (by decide)) rfl (fun h => absurd h (by omega)) hn]
  simp only [Nat.zero_add, Nat.mul_zero, Nat.pow_zero, Nat.mul_one]
  rw [if_neg (by omega)]
theorem uS_ok {most : Nat} {s : St} (h : (uS most s).2.2 = 0) : s.2 = 0 ∧ s.1 = putU (uS most s).1 ++ (uS most s).2.1 ∧ (uS most s).1 ≤ most ∧ (uS most s).1 < 18446744073709551616 := by
  by_cases he : s.2 ≠ 0
  · have : uS most s = (0, ([], s.2)) := by rw [uS, if_pos he]
    rw [this] at h; exact absurd h he
  · cases hg : getU 0 0 s.1 with
    | none =>
      have : uS most s = (0, ([], 6)) := by rw [uS, if_neg he, hg]
      rw [this] at h; exact absurd h (show ¬ (6 : Int) = 0 by decide)
    | some p =>
      obtain ⟨v, r⟩ := p
      have hu : uS most s = if v > most then (0, ([], 5)) else (v, (r, 0)) := by rw [uS, if_neg he, hg]
      by_cases hv : v > most
      · rw [hu, if_pos hv] at h; exact absurd h (show ¬ (5 : Int) = 0 by decide)
      · rw [hu, if_neg hv]
        obtain ⟨m, h1, h2, h3, _⟩ := getU_canon s.1 0 0 v r (by omega) hg
        simp only [Nat.zero_add, Nat.mul_zero, Nat.pow_zero, Nat.mul_one, Nat.sub_zero] at h1 h3
        subst h1
        exact ⟨by simpa using he, h2, by show v ≤ most; omega, h3⟩
theorem bS_ok {s : St} (h : (bS s).2.2 = 0) : s.2 = 0 ∧ s.1 = (bS s).1 :: (bS s).2.1 := by
  unfold bS at h ⊢
  split at h
  · rename_i he; exact absurd h he
  · rename_i he
    rw [if_neg he]
    split at h
    · exact absurd h (show ¬ (6 : Int) = 0 by decide)
    · rename_i c r hs
      refine ⟨by simpa using he, ?_⟩
      rw [hs]
theorem procS_put {n l : Int} {r : List UInt8} (hn : 0 ≤ n ∧ n < 256) (hl : 0 ≤ l ∧ l < 65536) : procS (putP n l ++ r, 0) = ((u8 n, l.toNat), (r, 0)) := by
  have h1 : bS (putP n l ++ r, 0) = (u8 n, (putU l.toNat ++ r, 0)) := rfl
  simp only [procS, h1]
  rw [uS_put (by omega) (by omega)]
theorem procS_ok {s : St} (h : (procS s).2.2 = 0) : s.2 = 0 ∧ s.1 = putP ((procS s).1.1.toNat : Int) ((procS s).1.2 : Int) ++ (procS s).2.1 ∧ (procS s).1.2 ≤ 65535 := by
  have h1 : (uS 65535 (bS s).2).2.2 = 0 := h
  obtain ⟨g1, g2, g3, _⟩ := uS_ok h1
  obtain ⟨k1, k2⟩ := bS_ok g1
  refine ⟨k1, ?_, g3⟩
  rw [k2, g2]
  have e : u8 ((bS s).1.toNat : Int) = (bS s).1 := by
    show UInt8.ofNat ((bS s).1.toNat : Int).toNat = _
    rw [Int.toNat_natCast]; simp
  show _ = (u8 ((bS s).1.toNat : Int) :: putU (((uS 65535 (bS s).2).1 : Int)).toNat) ++ (uS 65535 (bS s).2).2.1
  rw [e, Int.toNat_natCast]; rfl
theorem textS_put {most : Nat} {l r : List UInt8} (hl : l.length ≤ most) (h64 : l.length < 18446744073709551616) : textS most (putU l.length ++ (l ++ r), 0) = (l, (r, 0)) := by
  simp only [textS]
  rw [uS_put h64 hl]
  rw [if_neg (by simp), if_neg (by simp)]
  simp
theorem textS_ok {most : Nat} {s : St} (h : (textS most s).2.2 = 0) : s.2 = 0 ∧ s.1 = putU (textS most s).1.length ++ ((textS most s).1 ++ (textS most s).2.1) ∧ (textS most s).1.length ≤ most := by
  unfold textS at h ⊢
  dsimp only at h ⊢
  split at h
  · rename_i he; exact absurd h he
  · rename_i he
    rw [if_neg he]
    split at h
    · exact absurd h (show ¬ (6 : Int) = 0 by decide)
    · rename_i hv
      rw [if_neg hv]
      obtain ⟨g1, g2, g3, _⟩ := uS_ok (by simpa using he)
      have e : ((uS most s).2.1.take (uS most s).1).length = (uS most s).1 := by rw [List.length_take]; omega
      dsimp only
      rw [e, List.take_append_drop]
      exact ⟨g1, g2, g3⟩
theorem flagS_put {f : Bool} {r : List UInt8} : flagS (flagB f :: r, 0) = (f, (r, 0)) := by cases f <;> rfl
theorem bS_err {s : St} (h : (bS s).1.toNat > 1) : (bS s).2.2 = 0 := by
  unfold bS at h ⊢
  split at h
  · exact absurd h (show ¬ (0 : UInt8).toNat > 1 by decide)
  · rename_i h0
    rw [if_neg h0]
    split at h
    · exact absurd h (show ¬ (0 : UInt8).toNat > 1 by decide)
    · rfl
theorem flagS_ok {s : St} (h : (flagS s).2.2 = 0) : s.2 = 0 ∧ s.1 = flagB (flagS s).1 :: (flagS s).2.1 := by
  unfold flagS at h ⊢
  dsimp only at h ⊢
  by_cases hb : (bS s).1.toNat > 1
  · rw [if_pos hb] at h
    have : (failS (bS s).2 6).2 = 6 := by rw [failS, if_pos (bS_err hb)]
    rw [this] at h; exact absurd h (by decide)
  · rw [if_neg hb] at h ⊢
    obtain ⟨k1, k2⟩ := bS_ok h
    refine ⟨k1, ?_⟩
    rw [k2]; congr 1
    generalize (bS s).1 = c at hb
    have hc : c = 0 ∨ c = 1 := by
      rcases (show c.toNat = 0 ∨ c.toNat = 1 by omega) with h | h
      · exact .inl (UInt8.toNat_inj.1 h)
      · exact .inr (UInt8.toNat_inj.1 h)
    rcases hc with rfl | rfl <;> rfl
theorem endS_ok {s : St} (h : endS s = 0) : s = ([], 0) := by
  unfold endS at h
  split at h
  · rename_i he; exact absurd h he
  · rename_i he
    split at h
    · rename_i hs
      obtain ⟨a, b⟩ := s
      have : b = 0 := by simpa using he
      subst this
      have : a = [] := hs
      rw [this]
    · exact absurd h (by decide)
theorem zag_zig {n : Int} (h : -9223372036854775808 ≤ n ∧ n ≤ 9223372036854775807) : zagN (zigN n) = n := by
  unfold zagN zigN
  by_cases hn : n < 0
  · rw [if_pos hn, if_pos (by omega)]; omega
  · rw [if_neg hn, if_neg (by omega)]; omega
theorem zig_zag {v : Nat} : zigN (zagN v) = v := by
  unfold zagN zigN
  by_cases hv : v % 2 = 1
  · rw [if_pos hv, if_pos (by omega)]; omega
  · rw [if_neg hv, if_neg (by omega)]; omega
theorem u8_nat8 (c : UInt8) : u8 ((c.toNat : Nat) : Int) = c := by
  show UInt8.ofNat ((c.toNat : Nat) : Int).toNat = _
  rw [Int.toNat_natCast]; simp
theorem u8N {n : Int} (h : 0 ≤ n ∧ n < 256) : (u8 n).toNat = n.toNat := by have := u8I h; omega
theorem bS_cons (c : UInt8) (r : List UInt8) : bS (c :: r, 0) = (c, (r, 0)) := rfl
theorem ba_ext {a b : ByteArray} (h : a.data = b.data) : a = b := by cases a; cases b; cases h; rfl
theorem toBA_back (s : ByteArray) : toBA s.data.toList = s := by
  apply ba_ext; simp [toBA]
/-! ### pieces: there -/
theorem iS_put {n : Int} {t : List UInt8} (h : -9223372036854775808 ≤ n ∧ n ≤ 9223372036854775807) : iS (putU (zigN n) ++ t, 0) = (n, (t, 0)) := by
  have hz := zig_lt h
  rw [iS, uS_put hz (by show zigN n ≤ 18446744073709551615; omega), zag_zig h]
theorem text_put {s : ByteArray} {t : List UInt8} {most : Nat} (hs : s.size ≤ most) (hm : most ≤ 100000) : textS most (textB s ++ t, 0) = (s.data.toList, (t, 0)) := by
  have hd : s.data.toList.length = s.size := data_len s
  have h := textS_put (most := most) (l := s.data.toList) (r := t) (by omega) (by omega)
  rw [hd] at h
  rw [textB, List.append_assoc]; exact h
theorem prS_put {p : Pr} {t : List UInt8} (h : PrW p) : prS (prB p ++ t, 0) = (p, (t, 0)) := by
  rw [prS, prB, procS_put h.n h.l, prOf, u8N h.n]
  obtain ⟨n, l⟩ := p
  have h1 := h.n.1; have h2 := h.l.1
  simp only at h1 h2 ⊢
  rw [Int.toNat_of_nonneg h1, Int.toNat_of_nonneg h2]
theorem ptS_put {p : Pt} {t : List UInt8} (hi : PtIn p) (hk : p.key.size ≤ 255) (hv : p.val.size ≤ 255) : ptS (ptB p ++ t, 0) = (p, (t, 0)) := by
  have e : ptB p ++ t = u8 p.g :: (u8 p.k :: (textB p.key ++ (textB p.val ++ (putU (zigN p.n) ++ t)))) := by
    rw [ptB]; simp only [List.append_assoc, List.cons_append, List.nil_append]
  rw [e]
  simp only [ptS, bS_cons]
  rw [text_put hk (by decide)]
  simp only
  rw [text_put hv (by decide)]
  simp only
  rw [iS_put hi.n]
  simp only
  rw [toBA_back, toBA_back, u8N hi.g, u8N hi.k, Int.toNat_of_nonneg hi.g.1, Int.toNat_of_nonneg hi.k.1]
theorem resS_put {c : Int} {v : ByteArray} {t : List UInt8} (hc : 0 ≤ c ∧ c < 256) (hv : v.size ≤ 1000) : resS (resB c v ++ t, 0) = (⟨c, v⟩, (t, 0)) := by
  have e : resB c v ++ t = u8 c :: (textB v ++ t) := by rw [resB]; simp only [List.append_assoc, List.cons_append, List.nil_append]
  rw [e]
  simp only [resS, bS_cons]
  rw [text_put hv (by decide)]
  simp only
  rw [toBA_back, u8N hc, Int.toNat_of_nonneg hc.1]
theorem wrS_put {x : Wr} {t : List UInt8} (hk : x.key.size ≤ 255) (hv : x.val.size ≤ 255) : wrS (wrB x ++ t, 0) = (x, (t, 0)) := by
  have e : wrB x ++ t = textB x.key ++ (textB x.val ++ (flagB x.has :: t)) := by rw [wrB]; simp only [List.append_assoc, List.cons_append, List.nil_append]
  rw [e]
  simp only [wrS]
  rw [text_put hk (by decide)]
  simp only
  rw [text_put hv (by decide)]
  simp only
  rw [flagS_put]
  simp only
  rw [toBA_back, toBA_back]
theorem someS_put {α : Type} {g : St → α × St} {f : α → List UInt8} : ∀ (l : List α) (t : List UInt8), (∀ x ∈ l, ∀ t, g (f x ++ t, 0) = (x, (t, 0))) → someS g l.length (l.flatMap f ++ t, 0) = (l, (t, 0))
  | [], t, h => rfl
  | x :: l, t, h => by
    have e : (x :: l).flatMap f ++ t = f x ++ (l.flatMap f ++ t) := by rw [List.flatMap_cons, List.append_assoc]
    have hx := h x (List.mem_cons_self ..) (l.flatMap f ++ t)
    rw [e, List.length_cons, someS, hx]
    have ih := someS_put l t (fun y hy => h y (List.mem_cons_of_mem _ hy))
    simp only
    rw [ih, if_neg (by simp)]
theorem listS_put {α : Type} {g : St → α × St} {f : α → List UInt8} {l : List α} {t : List UInt8} (hl : l.length ≤ 255) (h : ∀ x ∈ l, ∀ t, g (f x ++ t, 0) = (x, (t, 0))) : someS g (bS (listB f l ++ t, 0)).1.toNat (bS (listB f l ++ t, 0)).2 = (l, (t, 0)) := by
  have e : listB f l ++ t = UInt8.ofNat l.length :: (l.flatMap f ++ t) := by
    rw [listB, Nat.min_eq_left hl, List.take_of_length_le hl]; simp only [List.append_assoc, List.cons_append, List.nil_append]
  have h2 : (UInt8.ofNat l.length).toNat = l.length := by show l.length % 256 = _; omega
  rw [e, bS_cons, h2, someS_put l t h]
theorem ptsS_put {l : List Pt} {t : List UInt8} (hl : l.length ≤ 255) (h : ∀ p ∈ l, PtIn p ∧ p.key.size ≤ 255 ∧ p.val.size ≤ 255) : ptsS (listB ptB l ++ t, 0) = (l, (t, 0)) := listS_put hl fun x hx t => ptS_put (h x hx).1 (h x hx).2.1 (h x hx).2.2
theorem wrsS_put {l : List Wr} {t : List UInt8} (hl : l.length ≤ 255) (h : ∀ p ∈ l, p.key.size ≤ 255 ∧ p.val.size ≤ 255) : wrsS (listB wrB l ++ t, 0) = (l, (t, 0)) := listS_put hl fun x hx t => wrS_put (h x hx).1 (h x hx).2
theorem prsS_put {l : List Pr} {t : List UInt8} (hl : l.length ≤ 255) (h : ∀ p ∈ l, PrW p) : prsS (listB prB l ++ t, 0) = (l, (t, 0)) := by
  rw [prsS, listS_put hl fun x hx t => prS_put (h x hx)]; rfl
theorem vwS_put {g n : Int} {l : List Pr} {t : List UInt8} (hg : 0 ≤ g ∧ g < 256) (hn : 0 ≤ n ∧ n < 4294967296) (hl : l.length ≤ 255) (h : ∀ p ∈ l, PrW p) : vwS (vwB g n l ++ t, 0) = ((g, n, l), (t, 0)) := by
  have e : vwB g n l ++ t = u8 g :: (putU n.toNat ++ (listB prB l ++ t)) := by rw [vwB]; simp only [List.append_assoc, List.cons_append, List.nil_append]
  rw [e]
  have hV : vwS (u8 g :: (putU n.toNat ++ (listB prB l ++ t)), 0) = if (prsS (uS 4294967295 (putU n.toNat ++ (listB prB l ++ t), 0)).2).2.2 ≠ 0 then (((0 : Int), (0 : Int), ([] : List Pr)), (prsS (uS 4294967295 (putU n.toNat ++ (listB prB l ++ t), 0)).2).2) else (((((u8 g).toNat : Nat) : Int), (((uS 4294967295 (putU n.toNat ++ (listB prB l ++ t), 0)).1 : Nat) : Int), (prsS (uS 4294967295 (putU n.toNat ++ (listB prB l ++ t), 0)).2).1), (prsS (uS 4294967295 (putU n.toNat ++ (listB prB l ++ t), 0)).2).2) := rfl
  rw [uS_put (by omega) (by omega)] at hV
  simp only at hV
  rw [prsS_put hl h] at hV
  rw [hV]
  simp only
  rw [if_neg (by simp), u8N hg, Int.toNat_of_nonneg hg.1, Int.toNat_of_nonneg hn.1]
theorem idS_put {x : I} {t : List UInt8} (hx : x.In) (hr : x.right = true) : idS (idB x ++ t, 0) = (x, (t, 0)) := by
  have hd := right_d hx hr
  simp only [I.right, Bool.and_eq_true, stepIn, Bool.or_eq_true, decide_eq_true_eq] at hr
  obtain ⟨⟨⟨_, r0⟩, r1⟩, r2⟩ := hr
  have e : idB x ++ t = u8 x.n :: (putU x.l.toNat ++ (putU x.s.toNat ++ (u8 x.d :: ((stL x).flatMap stB ++ t)))) := by
    rw [idB, putP]; simp only [List.append_assoc, List.cons_append, List.nil_append]
  have hH : idH (idB x ++ t, 0) = (⟨x.n, x.l, x.s, x.d, 0, 0, 0, 0, 0, 0⟩, ((stL x).flatMap stB ++ t, 0)) := by
    rw [e]
    have hp := procS_put (n := x.n) (l := x.l) (r := putU x.s.toNat ++ (u8 x.d :: ((stL x).flatMap stB ++ t))) hx.n hx.l
    rw [putP, List.cons_append] at hp
    simp only [idH]
    rw [hp]
    simp only
    rw [uS_put (by have := hx.s; omega) (by have := hx.s; omega)]
    simp only [bS_cons]
    rw [u8N hx.n, u8N hx.d, Int.toNat_of_nonneg hx.n.1, Int.toNat_of_nonneg hx.l.1, Int.toNat_of_nonneg hx.s.1, Int.toNat_of_nonneg hx.d.1]
  rw [idS, hH]
  simp only
  rw [if_neg (by omega)]
  have n8 : ∀ {a : Int}, (0 ≤ a ∧ a < 256) → (((u8 a).toNat : Nat) : Int) = a := fun h => u8I h
  obtain ⟨n, l, s, d, g0, i0, g1, i1, g2, i2⟩ := x
  simp only at hd r0 r1 r2 ⊢
  have h0 := n8 hx.g0; have h1 := n8 hx.i0; have h2 := n8 hx.g1; have h3 := n8 hx.i1; have h4 := n8 hx.g2; have h5 := n8 hx.i2
  simp only at h0 h1 h2 h3 h4 h5
  obtain rfl | rfl | rfl | rfl : d = 0 ∨ d = 1 ∨ d = 2 ∨ d = 3 := by omega
  · have a : g0 = 0 ∧ i0 = 0 ∧ g1 = 0 ∧ i1 = 0 ∧ g2 = 0 ∧ i2 = 0 := by omega
    obtain ⟨rfl, rfl, rfl, rfl, rfl, rfl⟩ := a; rfl
  · have a : g1 = 0 ∧ i1 = 0 ∧ g2 = 0 ∧ i2 = 0 := by omega
    obtain ⟨rfl, rfl, rfl, rfl⟩ := a
    show ((⟨n, l, s, 1, (((u8 g0).toNat : Nat) : Int), (((u8 i0).toNat : Nat) : Int), 0, 0, 0, 0⟩ : I), (t, (0 : Int))) = _
    rw [h0, h1]
  · have a : g2 = 0 ∧ i2 = 0 := by omega
    obtain ⟨rfl, rfl⟩ := a
    show ((⟨n, l, s, 2, (((u8 g0).toNat : Nat) : Int), (((u8 i0).toNat : Nat) : Int), (((u8 g1).toNat : Nat) : Int), (((u8 i1).toNat : Nat) : Int), 0, 0⟩ : I), (t, (0 : Int))) = _
    rw [h0, h1, h2, h3]
  · show ((⟨n, l, s, 3, (((u8 g0).toNat : Nat) : Int), (((u8 i0).toNat : Nat) : Int), (((u8 g1).toNat : Nat) : Int), (((u8 i1).toNat : Nat) : Int), (((u8 g2).toNat : Nat) : Int), (((u8 i2).toNat : Nat) : Int)⟩ : I), (t, (0 : Int))) = _
    rw [h0, h1, h2, h3, h4, h5]
theorem rightL_sizes {l : List Pt} (h : rightL l = true) : l.length ≤ 4 ∧ ∀ p ∈ l, p.key.size ≤ 16 ∧ p.val.size ≤ 64 := by
  simp only [rightL, Bool.and_eq_true, decide_eq_true_eq, List.all_eq_true] at h
  refine ⟨h.1.2, fun p hp => ?_⟩
  have hr := h.2 p hp
  simp only [Pt.right, Bool.and_eq_true, decide_eq_true_eq] at hr
  refine ⟨by omega, ?_⟩
  have hf := hr.2
  unfold Pt.fits at hf
  repeat' split at hf
  all_goals first
    | (simp only [Bool.and_eq_true, decide_eq_true_eq] at hf; omega)
    | simp at hf
theorem empty_ba {s : ByteArray} (h : (s == ByteArray.mk #[]) = true) : s = ByteArray.mk #[] := (ba_eq _ _).1 h
theorem size_toL {a b : ByteArray} (h : a.toList = b.toList) : a.size = b.size := by
  rw [toL_data, toL_data] at h
  have := congrArg List.length h
  rw [data_len, data_len] at this; exact this
theorem evS_put {e : Ev} {g : Int} {t : List UInt8} (hi : EvIn e) (hr : e.right g = true) : evS (evB e ++ t, 0) = (e, (t, 0)) := by
  have hk := hi.kd
  obtain ⟨kd, id, fl, ps, rc, rv, ws, vn, vl⟩ := e
  have hkd : kd = 0 ∨ kd = 3 ∨ kd = 1 ∨ kd = 2 ∨ (kd ≠ 0 ∧ kd ≠ 1 ∧ kd ≠ 2 ∧ kd ≠ 3) := by omega
  have asks : ∀ k, (Ev.ask ⟨k, id, fl, ps, rc, rv, ws, vn, vl⟩ g) = true → id.right = true ∧ rightL ps = true ∧ vn = 0 ∧ vl = 0 := fun k h => by
    simp only [Ev.ask, Bool.and_eq_true, beq_iff_eq] at h
    exact ⟨h.1.1.1.1.1, h.1.1.1.1.2, h.2.1, h.2.2⟩
  have hC : id.right = true → rightL ps = true → ∀ (k : Int) (t : List UInt8), evC k (idB id ++ putU fl.toNat ++ listB ptB ps ++ t, 0) = ({ Ev.zero k with id := id, fl := fl, ps := ps }, (t, 0)) := fun h1 h2 k t => by
    have hs := rightL_sizes h2
    have e : idB id ++ putU fl.toNat ++ listB ptB ps ++ t = idB id ++ (putU fl.toNat ++ (listB ptB ps ++ t)) := by simp only [List.append_assoc]
    rw [e]
    simp only [evC]
    rw [idS_put hi.id h1]
    simp only
    rw [uS_put (by have := hi.fl; simp only at this; omega) (by have := hi.fl; simp only at this; omega)]
    simp only
    rw [ptsS_put (Nat.le_trans hs.1 (by decide)) fun p hp => ⟨hi.ps p hp, by have := (hs.2 p hp).1; omega, by have := (hs.2 p hp).2; omega⟩, Int.toNat_of_nonneg hi.fl.1]
  rcases hkd with rfl | rfl | rfl | rfl | hx
  · rw [ev_right0 rfl] at hr
    simp only [Bool.and_eq_true, decide_eq_true_eq] at hr
    obtain ⟨⟨ha, h0⟩, hw⟩ := hr
    obtain ⟨a1, a2, rfl, rfl⟩ := asks 0 ha
    simp only [Ev.res0, Bool.and_eq_true, beq_iff_eq] at h0
    obtain ⟨rfl, hrv⟩ := h0
    have hrv := empty_ba (s := rv) (by simpa using hrv)
    subst hrv
    have hws : ws = [] := List.eq_nil_of_length_eq_zero hw
    subst hws
    have e : evB ⟨0, id, fl, ps, 0, ByteArray.mk #[], [], 0, 0⟩ ++ t = u8 0 :: (idB id ++ putU fl.toNat ++ listB ptB ps ++ t) := by
      rw [evB0 rfl]; simp only [List.append_assoc, List.cons_append, List.nil_append]
    rw [e]
    have hb : evS (u8 0 :: (idB id ++ putU fl.toNat ++ listB ptB ps ++ t), 0) = evC 0 (idB id ++ putU fl.toNat ++ listB ptB ps ++ t, 0) := rfl
    rw [hb, hC a1 a2]; rfl
  · rw [ev_right3 rfl] at hr
    simp only [Bool.and_eq_true] at hr
    obtain ⟨ha, hc⟩ := hr
    obtain ⟨a1, a2, rfl, rfl⟩ := asks 3 ha
    have hs := rightL_sizes a2
    simp only [Ev.chk, Bool.and_eq_true] at hc
    have hres := hc.1.1.1
    have hwr := hc.2
    simp only [Ev.resR, Rs.right, Bool.and_eq_true, decide_eq_true_eq] at hres
    have hw : ws.length ≤ 255 ∧ ∀ x ∈ ws, x.key.size ≤ 255 ∧ x.val.size ≤ 255 := by
      cases ps with
      | nil => simp [Ev.wrote] at hwr
      | cons p ps' =>
        simp only [Ev.wrote] at hwr
        split at hwr
        · have : ws = [] := List.eq_nil_of_length_eq_zero (by simpa using hwr)
          subst this; exact ⟨by simp, by simp⟩
        · cases ws with
          | nil => exact ⟨by simp, by simp⟩
          | cons x ws' =>
            cases ws' with
            | cons y z => simp at hwr
            | nil =>
              simp only [wOk, Bool.and_eq_true, beq_iff_eq, decide_eq_true_eq] at hwr
              have hp := hs.2 p (List.mem_cons_self ..)
              have hsz := size_toL hwr.1.1
              refine ⟨by simp, fun y hy => ?_⟩
              simp only [List.mem_singleton] at hy; subst hy
              exact ⟨by omega, by omega⟩
    have e : evB ⟨3, id, fl, ps, rc, rv, ws, 0, 0⟩ ++ t = u8 3 :: (idB id ++ putU fl.toNat ++ listB ptB ps ++ (resB rc rv ++ (listB wrB ws ++ t))) := by
      rw [evB3 rfl]; simp only [List.append_assoc, List.cons_append, List.nil_append]
    rw [e]
    have hb : ∀ s, evS (u8 3 :: s, 0) = evK 3 (s, 0) := fun _ => rfl
    rw [hb]
    simp only [evK]
    rw [hC a1 a2]
    simp only
    rw [resS_put hi.rc (by omega)]
    simp only
    rw [wrsS_put hw.1 hw.2]; rfl
  · rw [ev_right1 rfl] at hr
    simp only [Bool.and_eq_true, beq_iff_eq] at hr
    obtain ⟨⟨⟨⟨⟨a1, _⟩, _⟩, hres⟩, hbare⟩, rfl, rfl⟩ := hr
    simp only [Ev.resR, Rs.right, Bool.and_eq_true, decide_eq_true_eq] at hres
    simp only [Ev.bare, Bool.and_eq_true, beq_iff_eq, decide_eq_true_eq] at hbare
    obtain ⟨⟨rfl, hp⟩, hw⟩ := hbare
    have hws : ws = [] := List.eq_nil_of_length_eq_zero hw
    have hps : ps = [] := List.eq_nil_of_length_eq_zero hp
    subst hws; subst hps
    have e : evB ⟨1, id, 0, [], rc, rv, [], 0, 0⟩ ++ t = u8 1 :: (idB id ++ (resB rc rv ++ t)) := by
      rw [evB1 rfl]; simp only [List.append_assoc, List.cons_append, List.nil_append]
    rw [e]
    have hb : ∀ s, evS (u8 1 :: s, 0) = evBk 1 (s, 0) := fun _ => rfl
    rw [hb]
    simp only [evBk]
    rw [idS_put hi.id a1]
    simp only
    rw [resS_put hi.rc (by omega)]; rfl
  · rw [ev_right2 rfl] at hr
    simp only [Bool.and_eq_true, decide_eq_true_eq] at hr
    obtain ⟨⟨⟨_, h0⟩, rfl⟩, hbare⟩ := hr
    simp only [Ev.res0, Bool.and_eq_true, beq_iff_eq] at h0
    obtain ⟨rfl, hrv⟩ := h0
    have hrv := empty_ba (s := rv) (by simpa using hrv)
    subst hrv
    simp only [Ev.bare, Bool.and_eq_true, beq_iff_eq, decide_eq_true_eq] at hbare
    obtain ⟨⟨rfl, hp⟩, hw⟩ := hbare
    have hws : ws = [] := List.eq_nil_of_length_eq_zero hw
    have hps : ps = [] := List.eq_nil_of_length_eq_zero hp
    subst hws; subst hps
    have e : evB ⟨2, I.zero, 0, [], 0, ByteArray.mk #[], [], vn, vl⟩ ++ t = u8 2 :: (putP vn vl ++ t) := by
      rw [evB2 rfl]; simp only [List.append_assoc, List.cons_append, List.nil_append]
    rw [e]
    have hb : ∀ s, evS (u8 2 :: s, 0) = evKl 2 (s, 0) := fun _ => rfl
    rw [hb]
    simp only [evKl]
    rw [procS_put hi.vn hi.vl]
    simp only
    rw [u8N hi.vn, Int.toNat_of_nonneg hi.vn.1, Int.toNat_of_nonneg hi.vl.1]; rfl
  · rw [Ev.right, if_neg hx.1, if_neg hx.2.2.2, if_neg hx.2.1, if_neg hx.2.2.1] at hr
    cases hr
theorem evsS_put {l : List Ev} {g : Int} {t : List UInt8} (hi : ∀ e ∈ l, EvIn e) (h : allE l g = true) : evsS (evsB l ++ t, 0) = (l, (t, 0)) := by
  simp only [allE, Bool.and_eq_true, decide_eq_true_eq, List.all_eq_true] at h
  rw [evsS, evsB, List.append_assoc, uS_put (by omega) h.1]
  simp only
  rw [someS_put l t fun x hx t => evS_put (hi x hx) (h.2 x hx)]; rfl
/-! ### pieces: back -/
theorem iS_ok {s : St} (h : (iS s).2.2 = 0) : s.2 = 0 ∧ s.1 = putU (zigN (iS s).1) ++ (iS s).2.1 := by
  obtain ⟨a, b, _⟩ := uS_ok (most := M64n) h
  refine ⟨a, ?_⟩
  rw [b]
  show _ = putU (zigN (zagN (uS M64n s).1)) ++ _
  rw [zig_zag]; rfl
theorem text_ok {most : Nat} {s : St} (h : (textS most s).2.2 = 0) : s.2 = 0 ∧ s.1 = textB (toBA (textS most s).1) ++ (textS most s).2.1 := by
  obtain ⟨a, b, _⟩ := textS_ok h
  refine ⟨a, ?_⟩
  rw [textB, toBA_size, toBA_data, List.append_assoc]; exact b
theorem bS_ok8 {s : St} (h : (bS s).2.2 = 0) : s.2 = 0 ∧ s.1 = [u8 (((bS s).1.toNat : Nat) : Int)] ++ (bS s).2.1 := by
  obtain ⟨a, b⟩ := bS_ok h
  exact ⟨a, by rw [u8_nat8]; exact b⟩
theorem uS_okN {most : Nat} {s : St} (h : (uS most s).2.2 = 0) : s.2 = 0 ∧ s.1 = putU (((uS most s).1 : Nat) : Int).toNat ++ (uS most s).2.1 := by
  obtain ⟨a, b, _⟩ := uS_ok h
  exact ⟨a, by rw [Int.toNat_natCast]; exact b⟩
theorem prS_ok {s : St} (h : (prS s).2.2 = 0) : s.2 = 0 ∧ s.1 = prB (prS s).1 ++ (prS s).2.1 := by
  obtain ⟨a, b, _⟩ := procS_ok h
  exact ⟨a, b⟩
theorem ptS_ok {s : St} (h : (ptS s).2.2 = 0) : s.2 = 0 ∧ s.1 = ptB (ptS s).1 ++ (ptS s).2.1 := by
  obtain ⟨e0, e1⟩ := iS_ok (s := (textS 255 (textS 255 (bS (bS s).2).2).2).2) h
  obtain ⟨d0, d1⟩ := text_ok e0
  obtain ⟨c0, c1⟩ := text_ok d0
  obtain ⟨b0, b1⟩ := bS_ok8 c0
  obtain ⟨a0, a1⟩ := bS_ok8 b0
  refine ⟨a0, ?_⟩
  rw [a1, b1, c1, d1, e1, ptB]
  simp only [List.append_assoc]; rfl
theorem resS_ok {s : St} (h : (resS s).2.2 = 0) : s.2 = 0 ∧ s.1 = resB (resS s).1.c (resS s).1.v ++ (resS s).2.1 := by
  obtain ⟨b0, b1⟩ := text_ok (s := (bS s).2) (most := 1000) h
  obtain ⟨a0, a1⟩ := bS_ok8 b0
  refine ⟨a0, ?_⟩
  rw [a1, b1, resB]
  simp only [List.append_assoc]; rfl
theorem flag_ok {s : St} (h : (flagS s).2.2 = 0) : s.2 = 0 ∧ s.1 = [flagB (flagS s).1] ++ (flagS s).2.1 := flagS_ok h
theorem wrS_ok {s : St} (h : (wrS s).2.2 = 0) : s.2 = 0 ∧ s.1 = wrB (wrS s).1 ++ (wrS s).2.1 := by
  obtain ⟨c0, c1⟩ := flag_ok (s := (textS 255 (textS 255 s).2).2) h
  obtain ⟨b0, b1⟩ := text_ok c0
  obtain ⟨a0, a1⟩ := text_ok b0
  refine ⟨a0, ?_⟩
  rw [a1, b1, c1, wrB]
  simp only [List.append_assoc]; rfl
theorem someS_ok {α : Type} {g : St → α × St} {f : α → List UInt8} {P : α → Prop} (hg : ∀ s, (g s).2.2 = 0 → P (g s).1 → s.2 = 0 ∧ s.1 = f (g s).1 ++ (g s).2.1) : ∀ (n : Nat) (s : St), (someS g n s).2.2 = 0 → (∀ x ∈ (someS g n s).1, P x) → s.2 = 0 ∧ (someS g n s).1.length = n ∧ s.1 = (someS g n s).1.flatMap f ++ (someS g n s).2.1
  | 0, s, h, hp => ⟨h, rfl, rfl⟩
  | n + 1, s, h, hp => by
    by_cases he : (g s).2.2 = 0
    rotate_left
    · rw [someS, if_pos he] at h; exact absurd h he
    rw [some_okstep n s he] at h hp ⊢
    obtain ⟨b0, b1, b2⟩ := someS_ok hg n (g s).2 h (fun x hx => hp x (List.mem_cons_of_mem _ hx))
    obtain ⟨a0, a1⟩ := hg s he (hp _ (List.mem_cons_self ..))
    refine ⟨a0, by rw [List.length_cons, b1], ?_⟩
    rw [List.flatMap_cons, List.append_assoc, ← b2]; exact a1
theorem listS_ok {α : Type} {g : St → α × St} {f : α → List UInt8} {P : α → Prop} (hg : ∀ s, (g s).2.2 = 0 → P (g s).1 → s.2 = 0 ∧ s.1 = f (g s).1 ++ (g s).2.1) (s : St) (h : (someS g (bS s).1.toNat (bS s).2).2.2 = 0) (hp : ∀ x ∈ (someS g (bS s).1.toNat (bS s).2).1, P x) : s.2 = 0 ∧ s.1 = listB f (someS g (bS s).1.toNat (bS s).2).1 ++ (someS g (bS s).1.toNat (bS s).2).2.1 := by
  obtain ⟨b0, b1, b2⟩ := someS_ok hg _ _ h hp
  obtain ⟨a0, a1⟩ := bS_ok b0
  refine ⟨a0, ?_⟩
  have hl := bS_lt s
  rw [listB, Nat.min_eq_left (by omega), List.take_of_length_le (by omega), b1, List.append_assoc, ← b2]
  have e : UInt8.ofNat (bS s).1.toNat = (bS s).1 := by simp
  rw [e]; exact a1
theorem ptsS_ok {s : St} (h : (ptsS s).2.2 = 0) : s.2 = 0 ∧ s.1 = listB ptB (ptsS s).1 ++ (ptsS s).2.1 := listS_ok (P := fun _ => True) (fun s h _ => ptS_ok h) s h (fun _ _ => trivial)
theorem wrsS_ok {s : St} (h : (wrsS s).2.2 = 0) : s.2 = 0 ∧ s.1 = listB wrB (wrsS s).1 ++ (wrsS s).2.1 := listS_ok (P := fun _ => True) (fun s h _ => wrS_ok h) s h (fun _ _ => trivial)
theorem okE_0 {α : Type} {p : List α × St} (h : (okE p).2.2 = 0) : okE p = p := by
  unfold okE at h ⊢
  split
  · rename_i h2; rw [if_pos h2] at h; exact absurd h h2
  · rfl
theorem prsS_ok {s : St} (h : (prsS s).2.2 = 0) : s.2 = 0 ∧ s.1 = listB prB (prsS s).1 ++ (prsS s).2.1 := by
  have e := okE_0 (p := someS prS (bS s).1.toNat (bS s).2) h
  have e2 : prsS s = someS prS (bS s).1.toNat (bS s).2 := e
  rw [e2] at h ⊢
  exact listS_ok (P := fun _ => True) (fun s h _ => prS_ok h) s h (fun _ _ => trivial)
theorem vwS_ok {s : St} (h : (vwS s).2.2 = 0) : s.2 = 0 ∧ s.1 = vwB (vwS s).1.1 (vwS s).1.2.1 (vwS s).1.2.2 ++ (vwS s).2.1 := by
  have hV : vwS s = if (prsS (uS 4294967295 (bS s).2).2).2.2 ≠ 0 then (((0 : Int), (0 : Int), ([] : List Pr)), (prsS (uS 4294967295 (bS s).2).2).2) else (((((bS s).1.toNat : Nat) : Int), (((uS 4294967295 (bS s).2).1 : Nat) : Int), (prsS (uS 4294967295 (bS s).2).2).1), (prsS (uS 4294967295 (bS s).2).2).2) := rfl
  by_cases hz : (prsS (uS 4294967295 (bS s).2).2).2.2 = 0
  rotate_left
  · rw [hV, if_pos hz] at h; exact absurd h hz
  rw [if_neg (fun hc => hc hz)] at hV
  rw [hV] at h ⊢
  obtain ⟨c0, c1⟩ := prsS_ok hz
  obtain ⟨b0, b1⟩ := uS_okN c0
  obtain ⟨a0, a1⟩ := bS_ok8 b0
  refine ⟨a0, ?_⟩
  rw [a1, b1, c1, vwB]
  simp only [List.append_assoc]
theorem stS_d : ∀ (k i : Nat) (x : I) (s : St), (stS k i x s).1.d = x.d
  | 0, _, _, _ => rfl
  | k + 1, i, x, s => by rw [stS, stS_d, put_d]
theorem idS_ok {s : St} (h : (idS s).2.2 = 0) (hd : (idS s).1.d ≤ 3) : s.2 = 0 ∧ s.1 = idB (idS s).1 ++ (idS s).2.1 := by
  have hdd : (idS s).1.d = (idH s).1.d := by
    unfold idS; split
    · rfl
    · rw [stS_d]
  have hI : idS s = stS (idH s).1.d.toNat 0 (idH s).1 (idH s).2 := by
    rw [idS, if_neg (by omega)]
  have hHd : (idH s).1.d = (((bS (uS 4294967295 (procS s).2).2).1.toNat : Nat) : Int) := rfl
  have head : (idH s).2.2 = 0 → s.2 = 0 ∧ s.1 = putP (((procS s).1.1.toNat : Nat) : Int) (((procS s).1.2 : Nat) : Int) ++ (putU (((uS 4294967295 (procS s).2).1 : Nat) : Int).toNat ++ ([u8 (((bS (uS 4294967295 (procS s).2).2).1.toNat : Nat) : Int)] ++ (idH s).2.1)) := fun h0 => by
    obtain ⟨c0, c1⟩ := bS_ok8 (s := (uS 4294967295 (procS s).2).2) h0
    obtain ⟨b0, b1⟩ := uS_okN c0
    obtain ⟨a0, a1, _⟩ := procS_ok b0
    refine ⟨a0, ?_⟩
    rw [a1, b1, c1]; rfl
  rw [hdd] at hd
  rw [hI] at h ⊢
  generalize hH : idH s = H at h hd hHd head ⊢
  obtain ⟨⟨n, l, sq, d, g0, i0, g1, i1, g2, i2⟩, s1⟩ := H
  simp only at h hd hHd head ⊢
  have hz : g0 = 0 ∧ i0 = 0 ∧ g1 = 0 ∧ i1 = 0 ∧ g2 = 0 ∧ i2 = 0 ∧ n = (((procS s).1.1.toNat : Nat) : Int) ∧ l = (((procS s).1.2 : Nat) : Int) ∧ sq = (((uS 4294967295 (procS s).2).1 : Nat) : Int) := by
    have := congrArg Prod.fst hH
    simp only [idH, I.mk.injEq] at this
    obtain ⟨q1, q2, q3, q4, q5, q6, q7, q8, q9, q10⟩ := this
    exact ⟨q5.symm, q6.symm, q7.symm, q8.symm, q9.symm, q10.symm, q1.symm, q2.symm, q3.symm⟩
  obtain ⟨rfl, rfl, rfl, rfl, rfl, rfl, rfl, rfl, rfl⟩ := hz
  rw [← hHd] at head
  have hd0 : 0 ≤ d := by rw [hHd]; omega
  clear hHd hH
  obtain rfl | rfl | rfl | rfl : d = 0 ∨ d = 1 ∨ d = 2 ∨ d = 3 := by omega
  · obtain ⟨a0, a1⟩ := head h
    refine ⟨a0, ?_⟩
    rw [a1, idB]
    simp only [List.append_assoc]; rfl
  · have c := bS_ok8 (s := (bS s1).2) h
    have b := bS_ok8 c.1
    obtain ⟨a0, a1⟩ := head b.1
    refine ⟨a0, ?_⟩
    rw [a1, b.2, c.2, idB]
    simp only [List.append_assoc]; rfl
  · have e := bS_ok8 (s := (bS (bS (bS s1).2).2).2) h
    have d := bS_ok8 e.1
    have c := bS_ok8 d.1
    have b := bS_ok8 c.1
    obtain ⟨a0, a1⟩ := head b.1
    refine ⟨a0, ?_⟩
    rw [a1, b.2, c.2, d.2, e.2, idB]
    simp only [List.append_assoc]; rfl
  · have g := bS_ok8 (s := (bS (bS (bS (bS (bS s1).2).2).2).2).2) h
    have f := bS_ok8 g.1
    have e := bS_ok8 f.1
    have d := bS_ok8 e.1
    have c := bS_ok8 d.1
    have b := bS_ok8 c.1
    obtain ⟨a0, a1⟩ := head b.1
    refine ⟨a0, ?_⟩
    rw [a1, b.2, c.2, d.2, e.2, f.2, g.2, idB]
    simp only [List.append_assoc]; rfl
theorem evC_ok {k : Int} {s : St} (h : (evC k s).2.2 = 0) (hd : (evC k s).1.id.d ≤ 3) : s.2 = 0 ∧ s.1 = idB (evC k s).1.id ++ putU (evC k s).1.fl.toNat ++ listB ptB (evC k s).1.ps ++ (evC k s).2.1 := by
  obtain ⟨c0, c1⟩ := ptsS_ok (s := (uS 4294967295 (idS s).2).2) h
  obtain ⟨b0, b1⟩ := uS_okN c0
  obtain ⟨a0, a1⟩ := idS_ok b0 hd
  refine ⟨a0, ?_⟩
  rw [a1, b1, c1]
  simp only [List.append_assoc]; rfl
theorem evS_ok {s : St} (h : (evS s).2.2 = 0) (hd : (evS s).1.id.d ≤ 3) : s.2 = 0 ∧ s.1 = evB (evS s).1 ++ (evS s).2.1 := by
  have hE : evS s = if (bS s).2.2 ≠ 0 then (Ev.zero 0, (bS s).2) else if (bS s).1.toNat = 3 then evK 3 (bS s).2 else if (bS s).1.toNat = 0 then evC 0 (bS s).2 else if (bS s).1.toNat = 1 then evBk 1 (bS s).2 else if (bS s).1.toNat = 2 then evKl 2 (bS s).2 else (Ev.zero ((bS s).1.toNat : Nat), failS (bS s).2 6) := rfl
  by_cases h0 : (bS s).2.2 = 0
  rotate_left
  · rw [hE, if_pos h0] at h; exact absurd h h0
  rw [if_neg (fun hc => hc h0)] at hE
  have hb := bS_ok8 h0
  refine ⟨hb.1, ?_⟩
  rw [hb.2]
  generalize (bS s).1.toNat = K at hE
  generalize hs1 : (bS s).2 = s1 at hE h0
  by_cases k3 : K = 3
  · rw [if_pos k3] at hE
    rw [hE] at h hd ⊢
    obtain ⟨c0, c1⟩ := wrsS_ok (s := (resS (evC 3 s1).2).2) h
    obtain ⟨b0, b1⟩ := resS_ok c0
    obtain ⟨a0, a1⟩ := evC_ok b0 hd
    rw [evB3 rfl, k3, a1, b1, c1]
    simp only [List.append_assoc]; rfl
  rw [if_neg k3] at hE
  by_cases k0 : K = 0
  · rw [if_pos k0] at hE
    rw [hE] at h hd ⊢
    obtain ⟨a0, a1⟩ := evC_ok h hd
    rw [evB0 rfl, k0, a1]
    simp only [List.append_assoc]; rfl
  rw [if_neg k0] at hE
  by_cases k1 : K = 1
  · rw [if_pos k1] at hE
    rw [hE] at h hd ⊢
    obtain ⟨b0, b1⟩ := resS_ok (s := (idS s1).2) h
    obtain ⟨a0, a1⟩ := idS_ok b0 hd
    rw [evB1 rfl, k1, a1, b1]
    simp only [List.append_assoc]; rfl
  rw [if_neg k1] at hE
  by_cases k2 : K = 2
  · rw [if_pos k2] at hE
    rw [hE] at h hd ⊢
    obtain ⟨a0, a1, _⟩ := procS_ok (s := s1) h
    rw [evB2 rfl, k2, a1]
    simp only [List.append_assoc]; rfl
  rw [if_neg k2] at hE
  rw [hE] at h
  have : (failS s1 6).2 = 6 := by rw [failS, if_pos h0]
  rw [this] at h; exact absurd h (by decide)
theorem evsS_ok {s : St} (h : (evsS s).2.2 = 0) (hd : ∀ e ∈ (evsS s).1, e.id.d ≤ 3) : s.2 = 0 ∧ s.1 = evsB (evsS s).1 ++ (evsS s).2.1 := by
  have e2 : evsS s = someS evS (uS 400 s).1 (uS 400 s).2 := okE_0 (p := someS evS (uS 400 s).1 (uS 400 s).2) h
  rw [e2] at h hd ⊢
  obtain ⟨b0, b1, b2⟩ := someS_ok (P := fun e : Ev => e.id.d ≤ 3) (f := evB) (fun s h hp => evS_ok h hp) _ _ h hd
  obtain ⟨a0, a1, _⟩ := uS_ok b0
  refine ⟨a0, ?_⟩
  rw [evsB, b1, List.append_assoc, ← b2]; exact a1
end Go.Proofs
namespace Go.Proofs
open Go X RowKit
/-! ### messages, there -/
def Mv.setF (x o : Mv) (c : Int) : Mv :=
  if c = 103 then { o with gr := x.gr }
  else if c = 105 then { o with id := x.id }
  else if c = 102 then { o with fl := x.fl }
  else if c = 112 then { o with ps := x.ps }
  else if c = 114 then { o with rc := x.rc, rv := x.rv }
  else if c = 118 then { o with vg := x.vg, vn := x.vn, vm := x.vm }
  else if c = 99 then { o with co := x.co }
  else if c = 110 then { o with nn := x.nn }
  else if c = 97 then { o with fr := x.fr }
  else if c = 107 then { o with cm := x.cm }
  else if c = 101 then { o with es := x.es }
  else if c = 98 then { o with ba := x.ba }
  else if c = 104 then { o with has := x.has }
  else if c = 120 then { o with ac := x.ac }
  else if c = 109 then { o with ms := x.ms, ts := x.ts }
  else if c = 115 then { o with pn := x.pn, pl := x.pl }
  else o
theorem sV103 (x o : Mv) : x.setF o 103 = { o with gr := x.gr } := rfl
theorem sV105 (x o : Mv) : x.setF o 105 = { o with id := x.id } := rfl
theorem sV102 (x o : Mv) : x.setF o 102 = { o with fl := x.fl } := rfl
theorem sV112 (x o : Mv) : x.setF o 112 = { o with ps := x.ps } := rfl
theorem sV114 (x o : Mv) : x.setF o 114 = { o with rc := x.rc, rv := x.rv } := rfl
theorem sV118 (x o : Mv) : x.setF o 118 = { o with vg := x.vg, vn := x.vn, vm := x.vm } := rfl
theorem sV99 (x o : Mv) : x.setF o 99 = { o with co := x.co } := rfl
theorem sV110 (x o : Mv) : x.setF o 110 = { o with nn := x.nn } := rfl
theorem sV97 (x o : Mv) : x.setF o 97 = { o with fr := x.fr } := rfl
theorem sV107 (x o : Mv) : x.setF o 107 = { o with cm := x.cm } := rfl
theorem sV101 (x o : Mv) : x.setF o 101 = { o with es := x.es } := rfl
theorem sV98 (x o : Mv) : x.setF o 98 = { o with ba := x.ba } := rfl
theorem sV104 (x o : Mv) : x.setF o 104 = { o with has := x.has } := rfl
theorem sV120 (x o : Mv) : x.setF o 120 = { o with ac := x.ac } := rfl
theorem sV109 (x o : Mv) : x.setF o 109 = { o with ms := x.ms, ts := x.ts } := rfl
theorem sV115 (x o : Mv) : x.setF o 115 = { o with pn := x.pn, pl := x.pl } := rfl
theorem gV103 (o : Mv) (s : St) : getL o 103 s = ({ o with gr := ((bS s).1.toNat : Nat) }, (bS s).2) := rfl
theorem gV105 (o : Mv) (s : St) : getL o 105 s = ({ o with id := (idS s).1 }, (idS s).2) := rfl
theorem gV102 (o : Mv) (s : St) : getL o 102 s = ({ o with fl := ((uS 4294967295 s).1 : Nat) }, (uS 4294967295 s).2) := rfl
theorem gV112 (o : Mv) (s : St) : getL o 112 s = ({ o with ps := (ptsS s).1 }, (ptsS s).2) := rfl
theorem gV114 (o : Mv) (s : St) : getL o 114 s = ({ o with rc := (resS s).1.c, rv := (resS s).1.v }, (resS s).2) := rfl
theorem gV118 (o : Mv) (s : St) : getL o 118 s = ({ o with vg := (vwS s).1.1, vn := (vwS s).1.2.1, vm := (vwS s).1.2.2 }, (vwS s).2) := rfl
theorem gV99 (o : Mv) (s : St) : getL o 99 s = ({ o with co := ((bS s).1.toNat : Nat) }, (bS s).2) := rfl
theorem gV110 (o : Mv) (s : St) : getL o 110 s = ({ o with nn := ((uS 4294967295 s).1 : Nat) }, (uS 4294967295 s).2) := rfl
theorem gV97 (o : Mv) (s : St) : getL o 97 s = ({ o with fr := ((uS 4294967295 s).1 : Nat) }, (uS 4294967295 s).2) := rfl
theorem gV107 (o : Mv) (s : St) : getL o 107 s = ({ o with cm := ((uS 4294967295 s).1 : Nat) }, (uS 4294967295 s).2) := rfl
theorem gV101 (o : Mv) (s : St) : getL o 101 s = ({ o with es := (evsS s).1 }, (evsS s).2) := rfl
theorem gV98 (o : Mv) (s : St) : getL o 98 s = ({ o with ba := ((uS M64n s).1 : Nat) }, (uS M64n s).2) := rfl
theorem gV104 (o : Mv) (s : St) : getL o 104 s = ({ o with has := (flagS s).1 }, (flagS s).2) := rfl
theorem gV120 (o : Mv) (s : St) : getL o 120 s = ({ o with ac := ((uS M64n s).1 : Nat) }, (uS M64n s).2) := rfl
theorem gV109 (o : Mv) (s : St) : getL o 109 s = ({ o with ms := (prsS s).1, ts := (evsS (prsS s).2).1 }, (evsS (prsS s).2).2) := rfl
theorem gV115 (o : Mv) (s : St) : getL o 115 s = ({ o with pn := ((procS s).1.1.toNat : Nat), pl := ((procS s).1.2 : Nat) }, (procS s).2) := rfl
theorem lV103 (x : Mv) : ltB x 103 = [u8 x.gr] := rfl
theorem lV105 (x : Mv) : ltB x 105 = idB x.id := rfl
theorem lV102 (x : Mv) : ltB x 102 = putU x.fl.toNat := rfl
theorem lV112 (x : Mv) : ltB x 112 = listB ptB x.ps := rfl
theorem lV114 (x : Mv) : ltB x 114 = resB x.rc x.rv := rfl
theorem lV118 (x : Mv) : ltB x 118 = vwB x.vg x.vn x.vm := rfl
theorem lV99 (x : Mv) : ltB x 99 = [u8 x.co] := rfl
theorem lV110 (x : Mv) : ltB x 110 = putU x.nn.toNat := rfl
theorem lV97 (x : Mv) : ltB x 97 = putU x.fr.toNat := rfl
theorem lV107 (x : Mv) : ltB x 107 = putU x.cm.toNat := rfl
theorem lV101 (x : Mv) : ltB x 101 = evsB x.es := rfl
theorem lV98 (x : Mv) : ltB x 98 = putU x.ba.toNat := rfl
theorem lV104 (x : Mv) : ltB x 104 = [flagB x.has] := rfl
theorem lV120 (x : Mv) : ltB x 120 = putU x.ac.toNat := rfl
theorem lV109 (x : Mv) : ltB x 109 = valB x.ms x.ts := rfl
theorem lV115 (x : Mv) : ltB x 115 = putP x.pn x.pl := rfl
theorem vwOk_len {g n : Int} {l : List Pr} (h : vwOk g n l = true) : l.length ≤ 8 := by
  have h2 := of_decide_eq_true (show decide (g < 4 ∧ n ≠ 0 ∧ l.length ≠ 0 ∧ l.length ≤ 8 ∧ okL l) = true from h)
  exact h2.2.2.2.1
theorem nat_back {n : Int} (h : 0 ≤ n) : ((n.toNat : Nat) : Int) = n := Int.toNat_of_nonneg h
theorem getL_put {x : Mv} (hi : MvF x) (o : Mv) (c : Int) (t : List UInt8) (h : x.fldR c = true) : getL o c (ltB x c ++ t, 0) = (x.setF o c, (t, 0)) := by
  by_cases h103 : c = 103
  · subst h103
    rw [gV103, lV103, List.singleton_append, bS_cons, sV103]; simp only
    rw [u8I hi.gr]
  by_cases h105 : c = 105
  · subst h105
    rw [fR105 rfl] at h
    rw [gV105, lV105, idS_put hi.id h, sV105]
  by_cases h102 : c = 102
  · subst h102
    rw [gV102, lV102, uS_put (by have := hi.fl; omega) (by have := hi.fl; omega), sV102]; simp only
    rw [nat_back hi.fl.1]
  by_cases h112 : c = 112
  · subst h112
    rw [fR112 rfl] at h
    simp only [Mv.prt, Bool.and_eq_true] at h
    have hs := rightL_sizes h.1.1
    rw [gV112, lV112, ptsS_put (Nat.le_trans hs.1 (by decide)) fun p hp => ⟨hi.ps p hp, by have := (hs.2 p hp).1; omega, by have := (hs.2 p hp).2; omega⟩, sV112]
  by_cases h114 : c = 114
  · subst h114
    rw [fR114 rfl] at h
    simp only [Mv.resR, Rs.right, Bool.and_eq_true, decide_eq_true_eq] at h
    rw [gV114, lV114, resS_put hi.rc (by omega), sV114]
  by_cases h118 : c = 118
  · subst h118
    rw [fR118 rfl] at h
    have hl := vwOk_len h
    rw [gV118, lV118, vwS_put hi.vg ⟨hi.vn, hi.vn32⟩ (Nat.le_trans hl (by decide)) hi.vmW, sV118]
  by_cases h99 : c = 99
  · subst h99
    rw [gV99, lV99, List.singleton_append, bS_cons, sV99]; simp only
    rw [u8I hi.co]
  by_cases h110 : c = 110
  · subst h110
    rw [gV110, lV110, uS_put (by have := hi.nn; omega) (by have := hi.nn; have := hi.nn32; omega), sV110]; simp only
    rw [nat_back hi.nn.1]
  by_cases h97 : c = 97
  · subst h97
    rw [gV97, lV97, uS_put (by have := hi.fr; omega) (by have := hi.fr; omega), sV97]; simp only
    rw [nat_back hi.fr.1]
  by_cases h107 : c = 107
  · subst h107
    rw [gV107, lV107, uS_put (by have := hi.cm; omega) (by have := hi.cm; omega), sV107]; simp only
    rw [nat_back hi.cm.1]
  by_cases h101 : c = 101
  · subst h101
    rw [fR101 rfl] at h
    simp only [Bool.and_eq_true] at h
    rw [gV101, lV101, evsS_put hi.es h.1, sV101]
  by_cases h98 : c = 98
  · subst h98
    rw [gV98, lV98, uS_put (by have := hi.ba; omega) (by have := hi.ba; show x.ba.toNat ≤ 18446744073709551615; omega), sV98]; simp only
    rw [nat_back hi.ba.1]
  by_cases h104 : c = 104
  · subst h104
    rw [gV104, lV104, List.singleton_append, flagS_put, sV104]
  by_cases h120 : c = 120
  · subst h120
    rw [gV120, lV120, uS_put (by have := hi.ac; omega) (by have := hi.ac; show x.ac.toNat ≤ 18446744073709551615; omega), sV120]; simp only
    rw [nat_back hi.ac.1]
  by_cases h109 : c = 109
  · subst h109
    rw [fR109 rfl] at h
    simp only [Bool.and_eq_true] at h
    have hl := vwOk_len h.1
    rw [gV109, lV109, valB, List.append_assoc, prsS_put (Nat.le_trans hl (by decide)) hi.msW]; simp only
    rw [evsS_put hi.ts h.2, sV109]
  by_cases h115 : c = 115
  · subst h115
    rw [gV115, lV115, procS_put hi.pn hi.pl, sV115]; simp only
    rw [u8I hi.pn, nat_back hi.pl.1]
  rw [getL, if_neg h103, if_neg h105, if_neg h102, if_neg h112, if_neg h114, if_neg h118, if_neg h99, if_neg h110, if_neg h97, if_neg h107, if_neg h101, if_neg h98, if_neg h104, if_neg h120, if_neg h109, if_neg h115, ltB, if_neg h103, if_neg h105, if_neg h102, if_neg h112, if_neg h114, if_neg h118, if_neg h99, if_neg h110, if_neg h97, if_neg h107, if_neg h101, if_neg h98, if_neg h104, if_neg h120, if_neg h109, if_neg h115, Mv.setF, if_neg h103, if_neg h105, if_neg h102, if_neg h112, if_neg h114, if_neg h118, if_neg h99, if_neg h110, if_neg h97, if_neg h107, if_neg h101, if_neg h98, if_neg h104, if_neg h120, if_neg h109, if_neg h115]; rfl
theorem foldG_put {x : Mv} (hi : MvF x) : ∀ (l : List UInt8) (o : Mv) (t : List UInt8), (∀ c ∈ l, x.fldR ((c.toNat : Nat) : Int) = true) → foldG l o (l.flatMap (fun c => ltB x ((c.toNat : Nat) : Int)) ++ t, 0) = (l.foldl (fun o c => x.setF o ((c.toNat : Nat) : Int)) o, (t, 0))
  | [], o, t, h => rfl
  | c :: l, o, t, h => by
    rw [List.flatMap_cons, List.append_assoc, foldG, getL_put hi o _ _ (h c (List.mem_cons_self ..))]
    exact foldG_put hi l _ t fun y hy => h y (List.mem_cons_of_mem _ hy)
theorem foldG_app (l1 l2 : List UInt8) : ∀ (x : Mv) (s : St), foldG (l1 ++ l2) x s = foldG l2 (foldG l1 x s).1 (foldG l1 x s).2 := by
  induction l1 with
  | nil => intro x s; rfl
  | cons c l ih => intro x s; rw [List.cons_append, foldG, ih, foldG]
theorem mv_only (x : Mv) (h : 0 ≤ x.kd ∧ x.kd ≤ 13) : (letL x.kd x.has).foldl (fun o c => x.setF o ((c.toNat : Nat) : Int)) (Mv.z x.kd) = x.onlyP := by
  obtain hk | hk | hk | hk | hk | hk | hk | hk | hk | hk | hk | hk | hk | hk : x.kd = 0 ∨ x.kd = 1 ∨ x.kd = 2 ∨ x.kd = 3 ∨ x.kd = 4 ∨ x.kd = 5 ∨ x.kd = 6 ∨ x.kd = 7 ∨ x.kd = 8 ∨ x.kd = 9 ∨ x.kd = 10 ∨ x.kd = 11 ∨ x.kd = 12 ∨ x.kd = 13 := by omega
  all_goals (obtain ⟨kd, gr, co, nn, fr, cm, fl, ba, ac, id, ps, rc, rv, vg, vn, vm, pn, pl, has, ms, es, ts⟩ := x)
  all_goals (replace hk : kd = _ := hk)
  all_goals (subst hk)
  · rfl
  · rfl
  · rfl
  · rfl
  · rfl
  · rfl
  · rfl
  · rfl
  · cases has <;> rfl
  · rfl
  · rfl
  · rfl
  · rfl
  · rfl
/-- what is read, by its letters -/
theorem msgG_let (k : Int) (s : St) : msgG k s = foldG (letL k (msgG k s).1.has) (Mv.z k) s := by
  unfold msgG msgH
  by_cases h : k = 8 ∧ (foldG (fldS k) (Mv.z k) s).1.has = true
  · rw [if_pos h]
    have hh : (foldG [120, 109] (foldG (fldS k) (Mv.z k) s).1 (foldG (fldS k) (Mv.z k) s).2).1.has = true := h.2
    rw [letL, if_pos ⟨h.1, hh⟩, foldG_app]
  · rw [if_neg h, letL, if_neg h]
theorem msgG_put {x : Mv} (hi : MvF x) (hr : x.right = true) (t : List UInt8) : msgG x.kd (fldB x ++ t, 0) = (x, (t, 0)) ∧ x.kd ≤ 13 := by
  have hk0 : 0 ≤ x.kd := hi.kd.1
  have hR : x.rightR = true := by rw [rightR_eq x hk0]; exact hr
  simp only [Mv.rightR, Bool.and_eq_true, decide_eq_true_eq, List.all_eq_true] at hR
  obtain ⟨⟨h13, hall⟩, hE⟩ := hR
  refine ⟨?_, h13⟩
  have hon := mv_only x ⟨hk0, h13⟩
  rw [← hE] at hon
  rw [fld_letters]
  unfold msgG msgH
  by_cases h8 : x.kd = 8 ∧ x.has = true
  · rw [letL, if_pos h8] at hall hon ⊢
    rw [List.flatMap_append, List.append_assoc, foldG_put hi (fldS x.kd) (Mv.z x.kd) _ fun c hc => hall c (List.mem_append_left _ hc)]
    simp only
    have hh : ((fldS x.kd).foldl (fun o c => x.setF o ((c.toNat : Nat) : Int)) (Mv.z x.kd)).has = true := by rw [fldS8 h8.1]; exact h8.2
    rw [if_pos ⟨h8.1, hh⟩, foldG_put hi [120, 109] _ t fun c hc => hall c (List.mem_append_right _ hc), ← List.foldl_append, hon]
  · rw [letL, if_neg h8] at hall hon ⊢
    rw [foldG_put hi (fldS x.kd) (Mv.z x.kd) t hall, hon]
    simp only
    rw [if_neg h8]
theorem there_back {x : Mv} (hi : MvF x) (hr : x.right = true) (hl : (msgB x).length ≤ 524288) : rdS (msgB x) = (x, 0) := by
  obtain ⟨hm, h13⟩ := msgG_put hi hr []
  rw [List.append_nil] at hm
  have hk := hi.kd
  have hb : bS (msgB x, 0) = (u8 x.kd, (fldB x, 0)) := rfl
  have hu := u8I hk
  rw [rdS, if_neg (by omega), hb]
  simp only
  rw [if_neg (by
    rintro (h | h)
    · exact h rfl
    · omega), hu, hm, rdE_ok rfl hr]
/-! ### messages, back -/
def ltD (x : Mv) (c : Int) : Prop :=
  if c = 105 then x.id.d ≤ 3 else if c = 101 then ∀ e ∈ x.es, e.id.d ≤ 3 else if c = 109 then ∀ e ∈ x.ts, e.id.d ≤ 3 else True
theorem lt_keep (x : Mv) (c c' : Int) (s : St) (h : c ≠ c') : ltB (getL x c' s).1 c = ltB x c ∧ (ltD (getL x c' s).1 c ↔ ltD x c) := by
  by_cases h103 : c' = 103
  · subst h103
    rw [gV103]; simp only [ltB, ltD, if_neg h]; exact ⟨trivial, trivial⟩
  by_cases h105 : c' = 105
  · subst h105
    rw [gV105]; simp only [ltB, ltD, if_neg h]; exact ⟨trivial, trivial⟩
  by_cases h102 : c' = 102
  · subst h102
    rw [gV102]; simp only [ltB, ltD, if_neg h]; exact ⟨trivial, trivial⟩
  by_cases h112 : c' = 112
  · subst h112
    rw [gV112]; simp only [ltB, ltD, if_neg h]; exact ⟨trivial, trivial⟩
  by_cases h114 : c' = 114
  · subst h114
    rw [gV114]; simp only [ltB, ltD, if_neg h]; exact ⟨trivial, trivial⟩
  by_cases h118 : c' = 118
  · subst h118
    rw [gV118]; simp only [ltB, ltD, if_neg h]; exact ⟨trivial, trivial⟩
  by_cases h99 : c' = 99
  · subst h99
    rw [gV99]; simp only [ltB, ltD, if_neg h]; exact ⟨trivial, trivial⟩
  by_cases h110 : c' = 110
  · subst h110
    rw [gV110]; simp only [ltB, ltD, if_neg h]; exact ⟨trivial, trivial⟩
  by_cases h97 : c' = 97
  · subst h97
    rw [gV97]; simp only [ltB, ltD, if_neg h]; exact ⟨trivial, trivial⟩
  by_cases h107 : c' = 107
  · subst h107
    rw [gV107]; simp only [ltB, ltD, if_neg h]; exact ⟨trivial, trivial⟩
  by_cases h101 : c' = 101
  · subst h101
    rw [gV101]; simp only [ltB, ltD, if_neg h]; exact ⟨trivial, trivial⟩
  by_cases h98 : c' = 98
  · subst h98
    rw [gV98]; simp only [ltB, ltD, if_neg h]; exact ⟨trivial, trivial⟩
  by_cases h104 : c' = 104
  · subst h104
    rw [gV104]; simp only [ltB, ltD, if_neg h]; exact ⟨trivial, trivial⟩
  by_cases h120 : c' = 120
  · subst h120
    rw [gV120]; simp only [ltB, ltD, if_neg h]; exact ⟨trivial, trivial⟩
  by_cases h109 : c' = 109
  · subst h109
    rw [gV109]; simp only [ltB, ltD, if_neg h]; exact ⟨trivial, trivial⟩
  by_cases h115 : c' = 115
  · subst h115
    rw [gV115]; simp only [ltB, ltD, if_neg h]; exact ⟨trivial, trivial⟩
  rw [getL, if_neg h103, if_neg h105, if_neg h102, if_neg h112, if_neg h114, if_neg h118, if_neg h99, if_neg h110, if_neg h97, if_neg h107, if_neg h101, if_neg h98, if_neg h104, if_neg h120, if_neg h109, if_neg h115]; exact ⟨rfl, Iff.rfl⟩
theorem lt_keepL : ∀ (l : List UInt8) (x : Mv) (s : St) (c : UInt8), c ∉ l → ltB (foldG l x s).1 ((c.toNat : Nat) : Int) = ltB x ((c.toNat : Nat) : Int) ∧ (ltD (foldG l x s).1 ((c.toNat : Nat) : Int) ↔ ltD x ((c.toNat : Nat) : Int))
  | [], x, s, c, h => ⟨rfl, Iff.rfl⟩
  | d :: l, x, s, c, h => by
    have hne : ((c.toNat : Nat) : Int) ≠ ((d.toNat : Nat) : Int) := fun he => h (by rw [UInt8.toNat_inj.1 (show c.toNat = d.toNat by omega)]; exact List.mem_cons_self ..)
    have h1 := lt_keep x _ _ s hne
    have h2 := lt_keepL l (getL x ((d.toNat : Nat) : Int) s).1 (getL x ((d.toNat : Nat) : Int) s).2 c (fun hm => h (List.mem_cons_of_mem _ hm))
    rw [foldG]
    exact ⟨h2.1.trans h1.1, h2.2.trans h1.2⟩
theorem getL_ok {x : Mv} {c : Int} {s : St} (h : (getL x c s).2.2 = 0) (hd : ltD (getL x c s).1 c) : s.2 = 0 ∧ s.1 = ltB (getL x c s).1 c ++ (getL x c s).2.1 := by
  by_cases h103 : c = 103
  · subst h103
    rw [gV103] at h hd ⊢
    rw [lV103]
    exact bS_ok8 h
  by_cases h105 : c = 105
  · subst h105
    rw [gV105] at h hd ⊢
    rw [lV105]
    exact idS_ok h hd
  by_cases h102 : c = 102
  · subst h102
    rw [gV102] at h hd ⊢
    rw [lV102]
    exact uS_okN h
  by_cases h112 : c = 112
  · subst h112
    rw [gV112] at h hd ⊢
    rw [lV112]
    exact ptsS_ok h
  by_cases h114 : c = 114
  · subst h114
    rw [gV114] at h hd ⊢
    rw [lV114]
    exact resS_ok h
  by_cases h118 : c = 118
  · subst h118
    rw [gV118] at h hd ⊢
    rw [lV118]
    exact vwS_ok h
  by_cases h99 : c = 99
  · subst h99
    rw [gV99] at h hd ⊢
    rw [lV99]
    exact bS_ok8 h
  by_cases h110 : c = 110
  · subst h110
    rw [gV110] at h hd ⊢
    rw [lV110]
    exact uS_okN h
  by_cases h97 : c = 97
  · subst h97
    rw [gV97] at h hd ⊢
    rw [lV97]
    exact uS_okN h
  by_cases h107 : c = 107
  · subst h107
    rw [gV107] at h hd ⊢
    rw [lV107]
    exact uS_okN h
  by_cases h101 : c = 101
  · subst h101
    rw [gV101] at h hd ⊢
    rw [lV101]
    exact evsS_ok h hd
  by_cases h98 : c = 98
  · subst h98
    rw [gV98] at h hd ⊢
    rw [lV98]
    exact uS_okN h
  by_cases h104 : c = 104
  · subst h104
    rw [gV104] at h hd ⊢
    rw [lV104]
    exact flag_ok h
  by_cases h120 : c = 120
  · subst h120
    rw [gV120] at h hd ⊢
    rw [lV120]
    exact uS_okN h
  by_cases h109 : c = 109
  · subst h109
    rw [gV109] at h hd ⊢
    rw [lV109]
    obtain ⟨b0, b1⟩ := evsS_ok (s := (prsS s).2) h hd
    obtain ⟨a0, a1⟩ := prsS_ok b0
    refine ⟨a0, ?_⟩
    rw [a1, b1, valB]; simp only [List.append_assoc]
  by_cases h115 : c = 115
  · subst h115
    rw [gV115] at h hd ⊢
    rw [lV115]
    obtain ⟨a0, a1, _⟩ := procS_ok h
    exact ⟨a0, a1⟩
  have hg : getL x c s = (x, s) := by rw [getL, if_neg h103, if_neg h105, if_neg h102, if_neg h112, if_neg h114, if_neg h118, if_neg h99, if_neg h110, if_neg h97, if_neg h107, if_neg h101, if_neg h98, if_neg h104, if_neg h120, if_neg h109, if_neg h115]
  rw [hg] at h ⊢
  exact ⟨h, by rw [ltB, if_neg h103, if_neg h105, if_neg h102, if_neg h112, if_neg h114, if_neg h118, if_neg h99, if_neg h110, if_neg h97, if_neg h107, if_neg h101, if_neg h98, if_neg h104, if_neg h120, if_neg h109, if_neg h115]; rfl⟩
theorem foldG_ok : ∀ (l : List UInt8) (x : Mv) (s : St), l.Nodup → (foldG l x s).2.2 = 0 → (∀ c ∈ l, ltD (foldG l x s).1 ((c.toNat : Nat) : Int)) → s.2 = 0 ∧ s.1 = l.flatMap (fun c => ltB (foldG l x s).1 ((c.toNat : Nat) : Int)) ++ (foldG l x s).2.1
  | [], x, s, _, h, _ => ⟨h, rfl⟩
  | c :: l, x, s, hn, h, hd => by
    rw [List.nodup_cons] at hn
    obtain ⟨b0, b1⟩ := foldG_ok l (getL x ((c.toNat : Nat) : Int) s).1 (getL x ((c.toNat : Nat) : Int) s).2 hn.2 h fun y hy => hd y (List.mem_cons_of_mem _ hy)
    have hk := lt_keepL l (getL x ((c.toNat : Nat) : Int) s).1 (getL x ((c.toNat : Nat) : Int) s).2 c hn.1
    have hdc := hd c (List.mem_cons_self ..)
    rw [foldG] at hdc ⊢
    obtain ⟨a0, a1⟩ := getL_ok b0 (hk.2.1 hdc)
    refine ⟨a0, ?_⟩
    rw [List.flatMap_cons, List.append_assoc, ← b1, hk.1]; exact a1
theorem foldG_kd : ∀ (l : List UInt8) (x : Mv) (s : St), (foldG l x s).1.kd = x.kd
  | [], x, s => rfl
  | c :: l, x, s => by rw [foldG, foldG_kd, getL_kd]
theorem letL_nodup (k : Int) (has : Bool) : (letL k has).Nodup := by
  have hk : k = 0 ∨ k = 1 ∨ k = 2 ∨ k = 3 ∨ k = 4 ∨ k = 5 ∨ k = 6 ∨ k = 7 ∨ k = 8 ∨ k = 9 ∨ k = 10 ∨ k = 11 ∨ k = 12 ∨ k = 13 ∨ ¬ (0 ≤ k ∧ k ≤ 13) := by omega
  rcases hk with rfl | rfl | rfl | rfl | rfl | rfl | rfl | rfl | rfl | rfl | rfl | rfl | rfl | rfl | h
  all_goals first
    | (cases has <;> decide)
    | (rw [letL, if_neg (by omega), fldSo h]; decide)
theorem right_id {e : Ev} {g : Int} (hi : EvIn e) (h : e.right g = true) : e.id.d ≤ 3 := by
  unfold Ev.right at h
  split at h
  · simp only [Ev.ask, Bool.and_eq_true] at h
    exact (right_d hi.id h.1.1.1.1.1.1.1).2
  · split at h
    · simp only [Ev.ask, Bool.and_eq_true] at h
      exact (right_d hi.id h.1.1.1.1.1.1.1.1.1).2
    · split at h
      · simp only [Bool.and_eq_true] at h
        exact (right_d hi.id h.1.1.1.1.1).2
      · split at h
        · simp only [Bool.and_eq_true, decide_eq_true_eq] at h
          rw [h.1.2]; decide
        · cases h
theorem allE_d {l : List Ev} {g : Int} (hi : ∀ e ∈ l, EvIn e) (h : allE l g = true) : ∀ e ∈ l, e.id.d ≤ 3 := fun e he => by
  simp only [allE, Bool.and_eq_true, List.all_eq_true] at h
  exact right_id (hi e he) (h.2 e he)
theorem ltD_of {x : Mv} (hi : MvF x) (c : Int) (h : x.fldR c = true) : ltD x c := by
  unfold ltD
  split
  · rename_i hc; rw [fR105 hc] at h; exact (right_d hi.id h).2
  · split
    · rename_i hc; rw [fR101 hc] at h
      simp only [Bool.and_eq_true] at h
      exact allE_d hi.es h.1
    · split
      · rename_i hc; rw [fR109 hc] at h
        simp only [Bool.and_eq_true] at h
        exact allE_d hi.ts h.2
      · trivial
theorem rdE_cases (a : Mv × St) : (rdE a).2 ≠ 0 ∧ (rdE a).1 = Mv.z 0 ∨ rdE a = (a.1, 0) ∧ endS a.2 = 0 ∧ a.1.right = true := by
  by_cases h : endS a.2 = 0
  · by_cases h2 : a.1.right = true
    · exact .inr ⟨rdE_ok h h2, h, h2⟩
    · rw [rdE_no h h2]; exact .inl ⟨by decide, rfl⟩
  · rw [rdE_err h]; exact .inl ⟨h, rfl⟩
theorem rdS_err {l : List UInt8} (h : (rdS l).2 ≠ 0) : (rdS l).1 = Mv.z 0 := by
  unfold rdS at h ⊢
  split
  · rfl
  · rename_i h1
    rw [if_neg h1] at h
    split
    · rfl
    · rename_i h2
      rw [if_neg h2] at h
      rcases rdE_cases (msgG (((bS (l, 0)).1.toNat : Nat) : Int) (bS (l, 0)).2) with h3 | h3
      · exact h3.2
      · rw [h3.1] at h; exact absurd rfl h
theorem back_there {l : List UInt8} (h : (rdS l).2 = 0) : byS (rdS l).1 = (l, 0) := by
  unfold rdS at h ⊢
  split at h
  · exact absurd h (show ¬ (5 : Int) = 0 by decide)
  rename_i h1
  rw [if_neg h1]
  split at h
  · exact absurd h (show ¬ (6 : Int) = 0 by decide)
  rename_i h2
  rw [if_neg h2]
  have hb : (bS (l, 0)).2.2 = 0 := Decidable.not_not.1 fun hc => h2 (.inl hc)
  have hK := bS_lt (l, 0)
  obtain ⟨_, hl⟩ := bS_ok8 hb
  generalize (bS (l, 0)).1.toNat = K at h h2 hK hl ⊢
  generalize (bS (l, 0)).2 = s at h hb hl ⊢
  have hin := msgG_in (K : Int) ⟨by omega, by omega⟩ s
  have hlet := msgG_let (K : Int) s
  have hkd : (msgG (K : Int) s).1.kd = (K : Int) := by rw [hlet, foldG_kd]; rfl
  generalize hG : msgG (K : Int) s = a at h hin hlet hkd ⊢
  rcases rdE_cases a with h3 | ⟨h3, hend, hr⟩
  · exact absurd h h3.1
  rw [h3]
  have he := endS_ok hend
  have hR : a.1.rightR = true := by rw [rightR_eq a.1 (by omega)]; exact hr
  simp only [Mv.rightR, Bool.and_eq_true, decide_eq_true_eq, List.all_eq_true] at hR
  obtain ⟨⟨_, hall⟩, _⟩ := hR
  rw [hkd] at hall
  have hok := foldG_ok (letL (K : Int) a.1.has) (Mv.z (K : Int)) s (letL_nodup _ _) (by rw [← hlet, he]) (fun c hc => by rw [← hlet]; exact ltD_of hin _ (hall c hc))
  rw [← hlet, he, List.append_nil, ← hkd, ← fld_letters] at hok
  show byS a.1 = (l, 0)
  have hl2 : [u8 (K : Int)] ++ s.1 = l := hl.symm
  rw [byS, if_pos hr, msgB, hkd, ← hok.2, hl2]
/-! ### how long the bytes are -/
theorem putU10 {n : Int} (h : n < 18446744073709551616) : (putU n.toNat).length ≤ 10 := putU_10 (by omega)
theorem putP_le {n l : Int} (hl : l < 65536) : (putP n l).length ≤ 11 := by
  have := putU10 (n := l) (by omega)
  rw [putP, List.length_cons]; omega
theorem textB_le {s : ByteArray} {k : Nat} (h : s.size ≤ k) (hk : k ≤ 100000) : (textB s).length ≤ k + 10 := by
  have hd : s.data.toList.length = s.size := data_len s
  have := putU_10 (n := s.size) (by omega)
  rw [textB, List.length_append]; omega
theorem flat_bound {α : Type} {f : α → List UInt8} {k : Nat} : ∀ (l : List α), (∀ x ∈ l, (f x).length ≤ k) → (l.flatMap f).length ≤ l.length * k
  | [], h => Nat.zero_le _
  | x :: l, h => by
    have h1 := h x (List.mem_cons_self ..)
    have h2 := flat_bound l fun y hy => h y (List.mem_cons_of_mem _ hy)
    rw [List.flatMap_cons, List.length_append, List.length_cons, Nat.succ_mul]; omega
theorem list_bound {α : Type} {f : α → List UInt8} {k n : Nat} {l : List α} (hn : l.length ≤ n) (h : ∀ x ∈ l, (f x).length ≤ k) : (listB f l).length ≤ 1 + n * k := by
  have h1 := flat_bound (l.take 255) fun x hx => h x (List.mem_of_mem_take hx)
  have h2 : (l.take 255).length * k ≤ n * k := Nat.mul_le_mul_right _ (by rw [List.length_take]; omega)
  rw [listB, List.length_append, List.length_singleton]; omega
theorem idB_le {x : I} (hx : x.In) : (idB x).length ≤ 28 := by
  have h1 := putP_le (n := x.n) hx.l.2
  have h2 := putU10 (n := x.s) (by have := hx.s; omega)
  have h3 := flat_bound (f := stB) (k := 2) (stL x) fun p _ => Nat.le_refl _
  have h4 : (stL x).length ≤ 3 := by rw [stL, List.length_take]; simp; omega
  rw [idB]; simp only [List.length_append, List.length_singleton]; omega
theorem ptB_le {p : Pt} (hi : PtIn p) (hk : p.key.size ≤ 16) (hv : p.val.size ≤ 64) : (ptB p).length ≤ 112 := by
  have h1 := textB_le hk (by decide)
  have h2 := textB_le hv (by decide)
  have h3 := putU_10 (zig_lt hi.n)
  rw [ptB]; simp only [List.length_append, List.length_singleton]; omega
theorem pts_le {l : List Pt} (hi : ∀ p ∈ l, PtIn p) (h : rightL l = true) : (listB ptB l).length ≤ 449 := by
  obtain ⟨h1, h2⟩ := rightL_sizes h
  exact list_bound (k := 112) (n := 4) h1 fun p hp => ptB_le (hi p hp) (h2 p hp).1 (h2 p hp).2
theorem resB_le {c : Int} {v : ByteArray} (h : v.size ≤ 1000) : (resB c v).length ≤ 1011 := by
  have := textB_le h (by decide)
  rw [resB]; simp only [List.length_append, List.length_singleton]; omega
theorem evB_le {e : Ev} {g : Int} (hi : EvIn e) (hr : e.right g = true) : (evB e).length ≤ 1601 := by
  have hk := hi.kd
  have hid := idB_le hi.id
  have hfl := putU10 (n := e.fl) (by have := hi.fl; omega)
  have hkd : e.kd = 0 ∨ e.kd = 3 ∨ e.kd = 1 ∨ e.kd = 2 ∨ (e.kd ≠ 0 ∧ e.kd ≠ 1 ∧ e.kd ≠ 2 ∧ e.kd ≠ 3) := by omega
  rcases hkd with h | h | h | h | h
  · rw [ev_right0 h] at hr
    simp only [Ev.ask, Bool.and_eq_true] at hr
    have := pts_le hi.ps hr.1.1.1.1.1.1.2
    rw [evB0 h]; simp only [List.length_append, List.length_singleton]; omega
  · rw [ev_right3 h] at hr
    simp only [Ev.ask, Ev.chk, Bool.and_eq_true] at hr
    have hps := hr.1.1.1.1.1.2
    have h1 := pts_le hi.ps hps
    have hres := hr.2.1.1.1
    have hwr := hr.2.2
    simp only [Ev.resR, Rs.right, Bool.and_eq_true, decide_eq_true_eq] at hres
    have h2 := resB_le (c := e.rc) (v := e.rv) (by omega)
    have h3 : (listB wrB e.ws).length ≤ 102 := by
      have hs := rightL_sizes hps
      refine list_bound (k := 101) (n := 1) ?_ ?_
      · unfold Ev.wrote at hwr
        split at hwr
        · cases hwr
        · split at hwr
          · simp only [decide_eq_true_eq] at hwr; omega
          · split at hwr
            · rename_i w0 hw; rw [hw]; simp
            · cases hwr
      · intro x hx
        unfold Ev.wrote at hwr
        split at hwr
        · cases hwr
        · rename_i p l hp
          split at hwr
          · simp only [decide_eq_true_eq] at hwr
            rw [List.eq_nil_of_length_eq_zero hwr] at hx; cases hx
          · split at hwr
            · rename_i w0 hw
              rw [hw] at hx
              simp only [List.mem_singleton] at hx; subst hx
              simp only [wOk, Bool.and_eq_true, beq_iff_eq, decide_eq_true_eq] at hwr
              have hz := (hs.2 p (by rw [hp]; exact List.mem_cons_self ..)).1
              have hsz := size_toL hwr.1.1
              have a := textB_le (s := x.key) (k := 16) (by omega) (by decide)
              have b := textB_le (s := x.val) (k := 64) (by omega) (by decide)
              rw [wrB]; simp only [List.length_append, List.length_singleton]; omega
            · cases hwr
    rw [evB3 h]; simp only [List.length_append, List.length_singleton]; omega
  · rw [ev_right1 h] at hr
    simp only [Bool.and_eq_true] at hr
    have hres := hr.1.1.2
    simp only [Ev.resR, Rs.right, Bool.and_eq_true, decide_eq_true_eq] at hres
    have h2 := resB_le (c := e.rc) (v := e.rv) (by omega)
    rw [evB1 h]; simp only [List.length_append, List.length_singleton]; omega
  · have := putP_le (n := e.vn) hi.vl.2
    rw [evB2 h]; simp only [List.length_append, List.length_singleton]; omega
  · rw [evBx h.1 h.2.1 h.2.2.1 h.2.2.2]; simp
theorem evs_le {l : List Ev} {g : Int} (hi : ∀ e ∈ l, EvIn e) (h : allE l g = true) (hl : l.length ≤ 150) : (evsB l).length ≤ 240160 := by
  simp only [allE, Bool.and_eq_true, List.all_eq_true] at h
  have h1 := flat_bound (f := evB) (k := 1601) l fun e he => evB_le (hi e he) (h.2 e he)
  have h2 := putU_10 (n := l.length) (by omega)
  have h3 : l.length * 1601 ≤ 150 * 1601 := Nat.mul_le_mul_right _ hl
  rw [evsB, List.length_append]; omega
def ltW (c : UInt8) : Nat := if c = 101 then 240160 else if c = 109 then 240300 else 1011
theorem lt_le {x : Mv} (hi : MvF x) (h1 : x.es.length ≤ 150) (h2 : x.ts.length ≤ 150) (c : UInt8) (h : x.fldR ((c.toNat : Nat) : Int) = true) : (ltB x ((c.toNat : Nat) : Int)).length ≤ ltW c := by
  have hpr : ∀ l : List Pr, l.length ≤ 8 → (∀ p ∈ l, PrW p) → (listB prB l).length ≤ 89 := fun l hl hp => list_bound (k := 11) (n := 8) hl fun p hm => putP_le (hp p hm).l.2
  by_cases c101 : c = 101
  · subst c101
    have hc : (((101 : UInt8).toNat : Nat) : Int) = 101 := rfl
    rw [hc, fR101 rfl] at h
    simp only [Bool.and_eq_true] at h
    rw [hc, lV101]; exact evs_le hi.es h.1 h1
  by_cases c109 : c = 109
  · subst c109
    have hc : (((109 : UInt8).toNat : Nat) : Int) = 109 := rfl
    rw [hc, fR109 rfl] at h
    simp only [Bool.and_eq_true] at h
    have a := hpr x.ms (vwOk_len h.1) hi.msW
    have b := evs_le hi.ts h.2 h2
    rw [hc, lV109, valB, List.length_append]
    show _ ≤ 240300
    omega
  have hW : ltW c = 1011 := by rw [ltW, if_neg c101, if_neg c109]
  rw [hW]
  have n101 : ((c.toNat : Nat) : Int) ≠ 101 := fun hc => c101 (UInt8.toNat_inj.1 (show c.toNat = 101 by omega))
  have n109 : ((c.toNat : Nat) : Int) ≠ 109 := fun hc => c109 (UInt8.toNat_inj.1 (show c.toNat = 109 by omega))
  generalize ((c.toNat : Nat) : Int) = d at h n101 n109 ⊢
  by_cases h103 : d = 103
  · subst h103
    rw [lV103]
    exact Nat.le_trans (Nat.le_refl 1) (by decide)
  by_cases h105 : d = 105
  · subst h105
    rw [lV105]
    exact Nat.le_trans (idB_le hi.id) (by decide)
  by_cases h102 : d = 102
  · subst h102
    rw [lV102]
    exact Nat.le_trans (putU10 (by have := hi.fl; omega)) (by decide)
  by_cases h112 : d = 112
  · subst h112
    rw [lV112]
    rw [fR112 rfl] at h
    simp only [Mv.prt, Bool.and_eq_true] at h
    exact Nat.le_trans (pts_le hi.ps h.1.1) (by decide)
  by_cases h114 : d = 114
  · subst h114
    rw [lV114]
    rw [fR114 rfl] at h
    simp only [Mv.resR, Rs.right, Bool.and_eq_true, decide_eq_true_eq] at h
    exact resB_le (by omega)
  by_cases h118 : d = 118
  · subst h118
    rw [lV118]
    rw [fR118 rfl] at h
    have a := hpr x.vm (vwOk_len h) hi.vmW
    have b := putU10 (n := x.vn) (by have := hi.vn32; omega)
    rw [vwB]; simp only [List.length_append, List.length_singleton]; omega
  by_cases h99 : d = 99
  · subst h99
    rw [lV99]
    exact Nat.le_trans (Nat.le_refl 1) (by decide)
  by_cases h110 : d = 110
  · subst h110
    rw [lV110]
    exact Nat.le_trans (putU10 hi.nn.2) (by decide)
  by_cases h97 : d = 97
  · subst h97
    rw [lV97]
    exact Nat.le_trans (putU10 (by have := hi.fr; omega)) (by decide)
  by_cases h107 : d = 107
  · subst h107
    rw [lV107]
    exact Nat.le_trans (putU10 (by have := hi.cm; omega)) (by decide)
  by_cases h98 : d = 98
  · subst h98
    rw [lV98]
    exact Nat.le_trans (putU10 hi.ba.2) (by decide)
  by_cases h104 : d = 104
  · subst h104
    rw [lV104]
    exact Nat.le_trans (Nat.le_refl 1) (by decide)
  by_cases h120 : d = 120
  · subst h120
    rw [lV120]
    exact Nat.le_trans (putU10 hi.ac.2) (by decide)
  by_cases h115 : d = 115
  · subst h115
    rw [lV115]
    exact Nat.le_trans (putP_le hi.pl.2) (by decide)
  have hz : ltB x d = [] := by rw [ltB, if_neg h103, if_neg h105, if_neg h102, if_neg h112, if_neg h114, if_neg h118, if_neg h99, if_neg h110, if_neg h97, if_neg h107, if_neg n101, if_neg h98, if_neg h104, if_neg h120, if_neg n109, if_neg h115]
  rw [hz]; exact Nat.zero_le _
theorem flat_sum {f : UInt8 → List UInt8} {W : UInt8 → Nat} : ∀ (l : List UInt8), (∀ c ∈ l, (f c).length ≤ W c) → (l.flatMap f).length ≤ (l.map W).sum
  | [], h => Nat.le_refl _
  | c :: l, h => by
    have h1 := h c (List.mem_cons_self ..)
    have h2 := flat_sum l fun y hy => h y (List.mem_cons_of_mem _ hy)
    rw [List.flatMap_cons, List.length_append, List.map_cons, List.sum_cons]; omega
theorem let_sum (k : Int) (has : Bool) : ((letL k has).map ltW).sum ≤ 500000 := by
  have hk : k = 0 ∨ k = 1 ∨ k = 2 ∨ k = 3 ∨ k = 4 ∨ k = 5 ∨ k = 6 ∨ k = 7 ∨ k = 8 ∨ k = 9 ∨ k = 10 ∨ k = 11 ∨ k = 12 ∨ k = 13 ∨ ¬ (0 ≤ k ∧ k ≤ 13) := by omega
  rcases hk with rfl | rfl | rfl | rfl | rfl | rfl | rfl | rfl | rfl | rfl | rfl | rfl | rfl | rfl | h
  all_goals first
    | (cases has <;> decide)
    | (rw [letL, if_neg (by omega), fldSo h]; decide)
theorem msg_le {x : Mv} (hi : MvF x) (hr : x.right = true) (h1 : x.es.length ≤ 150) (h2 : x.ts.length ≤ 150) : (msgB x).length ≤ 500001 := by
  have hR : x.rightR = true := by rw [rightR_eq x hi.kd.1]; exact hr
  simp only [Mv.rightR, Bool.and_eq_true, decide_eq_true_eq, List.all_eq_true] at hR
  have h3 := flat_sum (letL x.kd x.has) (fun c hc => lt_le hi h1 h2 c (hR.1.2 c hc))
  have h4 := let_sum x.kd x.has
  rw [msgB, List.length_append, List.length_singleton, fld_letters]; omega
end Go.Proofs
namespace Go.Proofs
open Go X RowKit
/-! ### the two laws -/
theorem mk_M {m : Mem} {x : Mg} (h : MgM0 m x) (l : x.lt) : MgM m x :=
  ⟨h.p, h.v, h.mm, ⟨h.e.1, fun e he => ⟨(h.e.2 e he).p, (h.e.2 e he).w, by have := (l.e.2 e he).1; omega, by have := (l.e.2 e he).2; omega⟩⟩, ⟨h.t.1, fun e he => ⟨(h.t.2 e he).p, (h.t.2 e he).w, by have := (l.t.2 e he).1; omega, by have := (l.t.2 e he).2; omega⟩⟩, h.pl, by have := l.v; omega, by have := l.m; omega, by have := l.e.1; omega, by have := l.t.1; omega⟩
theorem lt_len {x : Mg} (l : x.lt) : x.er.es.length ≤ 150 ∧ x.er.ts.length ≤ 150 := by
  have h1 := l.e.1; have h2 := l.t.1
  have e1 : x.er.es.length = x.es.length := by show (x.es.map En.er).length = _; simp
  have e2 : x.er.ts.length = x.ts.length := by show (x.ts.map En.er).length = _; simp
  omega
theorem s_beq (l : List UInt8) : ((toBA l).toList == (toBA l).toList) = true := by simp
/-- what is read, and told again -/
theorem back_tail (m : Mem) (w0 : World) (F0 : List Nat) (m0 : Mem) (q : Sl) (b : List UInt8) (hbl : b.length ≤ 4000) (p : Mg) (pM : MgM m p) (pC : MgC p) (pE : p.er = (rdS b).1) (hB : bsM m q b) (w1 : World) (L : List Nat) (C : Ctx F0 m0 w0 w1 L m []) (R : Ending → World → Prop) (hR : ∀ w2 L2 m2, Ctx F0 m0 w0 w2 L2 m2 [] → R (.returned (.bool true)) w2) :
    X.CallX Tryz.prog 12 #[.int .i64 (rdS b).2] w1 fun e110 w111 => ∃ n112 : Int, (e110 = .returned (.int .i64 n112)) ∧ (X.Kept L w1 w111) ∧
      if (n112 != 0) = true then X.CallX Tryz.prog 15 #[.agg p.row.toArray, .agg (Mg.z 0).row.toArray] w111 fun e126 w127 => ∃ b128 : Bool, (e126 = .returned (.bool b128)) ∧ (X.Kept L w111 w127) ∧ R (.returned (.bool b128)) w127
      else X.CallX Tryz.prog 7 #[.agg p.row.toArray] w111 fun e113 w114 => ∃ q115 : Option Addr, ∃ k116 : Nat, ∃ k117 : Nat, ∃ n118 : Int, (e113 = .returned (.tuple #[(.slice (q115) k116 k117), (.int .i64 n118)])) ∧ (X.Kept L w111 w114) ∧
        X.CallX Tryz.prog 12 #[(.int .i64 n118)] w114 fun e119 w120 => ∃ n121 : Int, (e119 = .returned (.int .i64 n121)) ∧ (X.Kept L w114 w120) ∧
          if ((n121 == 0) == true) = true then ∃ s122 : ByteArray, ∃ w123 : World, (Sem.run Tryz.prog (Go.convert 41 9 (.slice (q115) k116 k117)) w120 = .ok (.string s122) w123) ∧ (X.Kept L w120 w123) ∧ ∃ s124 : ByteArray, ∃ w125 : World, (Sem.run Tryz.prog (Go.convert 41 9 (slV q b.length)) w123 = .ok (.string s124) w125) ∧ (X.Kept L w123 w125) ∧ R (.returned (.bool (true && ((s122.toList) == (s124.toList))))) w125
          else R (.returned (.bool false)) w120 := by
  have hin := rdS_in b
  refine C.gives (c_num _) fun w111 k1 C => ⟨_, rfl, k1, ?_⟩
  by_cases h0 : (rdS b).2 = 0
  rotate_left
  · rw [if_pos (by simp [h0])]
    have hz := rdS_err h0
    refine (c_mSame p (Mg.z 0)).call (As := []) C ⟨pM, (mz_M m 0).1⟩ fun _ m2 w127 hk hm2 _ C => ⟨_, rfl, hk, ?_⟩
    rw [decide_eq_true (show p.er = (Mg.z 0).er by rw [pE, hz]; rfl)]
    exact hR _ _ _ C
  rw [if_neg (by simp [h0])]
  have hb := back_there h0
  rw [← pE] at hb hin
  have hml : (msgB p.er).length ≤ 1000000000 := by
    unfold byS at hb
    split at hb
    · have := congrArg Prod.fst hb
      simp only at this
      rw [this]; omega
    · have := congrArg Prod.snd hb
      exact absurd this (show ¬ (1 : Int) = 0 by decide)
  refine (c_BytesR p hin pC (fun _ => hml)).call (As := []) C pM fun q1 m3 w50 hk hm3 _ C => ⟨_, _, _, _, rfl, hk, ?_⟩
  rw [hb] at C ⊢
  obtain ⟨m4, hm4, hx, C⟩ := Ctx.slShare C
  replace hx : bsM m4 q1 b := hx
  replace hB := (hB.mono hm3).mono hm4
  refine C.gives (c_num _) fun w1 k1 C => ⟨_, rfl, k1, ?_⟩
  rw [if_pos (by rfl)]
  have s1 := run_str (P := Tryz.prog) (e := 5) Tryz.underlying41 Tryz.underlying5 Tryz.underlying9 (C.src hx) ⟨_, _, rfl⟩
  have s2 := run_str (P := Tryz.prog) (e := 5) Tryz.underlying41 Tryz.underlying5 Tryz.underlying9 (C.src hB) ⟨_, _, rfl⟩
  refine ⟨_, _, s1, X.kept_refl _ _, _, _, s2, X.kept_refl _ _, ?_⟩
  rw [s_beq]
  exact hR _ _ _ C
/-- WireBack -/
theorem l_WireBack (w : World) (a : Mg) (q : Sl) (b : List UInt8) (hA : MgM0 (memOf w) a) (hB : bsM (memOf w) q b) (hi : MvF a.er) : Calls Tryz.prog 4 #[.agg a.row.toArray, slV q b.length] w (LawR w) := by
  refine x_WireBack _ _ _ _ _ _ _ _ _ _ _ _ _ _ _ _ _ _ _ _ _ _ _ _ _ _ _ _ _ _ _ _ _ _ _ _ _ _ _ _ _ _ _ _ w _ fun w1 L2 h1 g1 => ?_
  refine (c_Light7 a).call (As := []) ((lawStart w).hidL h1 g1) hA fun b1 m1 w4 hk hm1 hb1 C => ⟨b1, rfl, hk, ?_⟩
  by_cases hg : ((!b1) || decide (((b.length : Nat) : Int) > 4000)) = true
  · rw [if_neg (by rw [hg]; decide)]
    exact C.gives g_knows fun w7 k7 C => ⟨_, rfl, k7, rfl, Ctx.at_ C⟩
  rw [if_pos (by rw [Bool.eq_false_iff.2 hg]; rfl)]
  simp only [Bool.or_eq_true, Bool.not_eq_true', decide_eq_true_eq, not_or, Bool.not_eq_false] at hg
  obtain ⟨hb1t, hbl⟩ := hg
  refine C.gives g_knows fun w10 k10 C => ⟨_, rfl, k10, ?_⟩
  rw [if_neg (by decide)]
  have hlt := hb1 hb1t
  have mA := mk_M (hA.mono hm1) hlt
  have hle := lt_len hlt
  replace hB := hB.mono hm1
  clear hA hb1
  refine (c_OwnMC a).call (As := []) C mA fun y m2 w13 hk hm2 hy C => ⟨_, _, _, _, _, _, _, _, _, _, _, _, _, _, _, _, _, _, _, _, _, _, _, _, _, _, _, _, _, _, _, _, _, _, _, _, _, _, _, _, _, rfl, hk, ?_⟩
  obtain ⟨yM, yE, yC⟩ := hy
  refine (c_BytesR y (by rw [yE]; exact hi) yC (fun hr => by rw [yE] at hr ⊢; have := msg_le hi hr hle.1 hle.2; omega)).call (As := []) C yM fun q1 m3 w56 hk hm3 _ C => ⟨_, _, _, _, rfl, hk, ?_⟩
  rw [yE] at C ⊢
  obtain ⟨m4, hm4, hx, C⟩ := Ctx.slShare C
  replace hx : bsM m4 q1 (byS a.er).1 := hx
  replace mA := ((mA.mono hm2).mono hm3).mono hm4
  replace hB := ((hB.mono hm2).mono hm3).mono hm4
  clear yM
  refine C.gives (c_num _) fun w62 k62 C => ⟨_, rfl, k62, ?_⟩
  by_cases hr : a.er.right = true
  rotate_left
  · have hby : byS a.er = ([], 1) := if_neg hr
    rw [hby, if_neg (by decide)]
    refine (c_Read7 q b (by omega)).call (As := []) C hB fun p m8 w65 hk hm8 hp C => ⟨_, _, _, _, _, _, _, _, _, _, _, _, _, _, _, _, _, _, _, _, _, _, _, _, _, _, _, _, _, _, _, _, _, _, _, _, _, _, _, _, _, _, rfl, hk, fun w108 L109 h108 g108 => ?_⟩
    exact back_tail m8 w _ _ q b (by omega) p hp.1 hp.2.1 hp.2.2 (hB.mono hm8) w108 L109 (C.hidL h108 g108) _ (fun w2 L3 m3 C => ⟨rfl, Ctx.at_ C⟩)
  have hby : byS a.er = (msgB a.er, 0) := if_pos hr
  have hml := msg_le hi hr hle.1 hle.2
  rw [hby] at hx ⊢
  rw [if_pos (by rfl)]
  have htb := there_back hi hr (by omega)
  refine (c_Read7 q1 (msgB a.er) (by omega)).call (As := []) C hx fun y2 m5 w130 hk hm5 hy2 C => ⟨_, _, _, _, _, _, _, _, _, _, _, _, _, _, _, _, _, _, _, _, _, _, _, _, _, _, _, _, _, _, _, _, _, _, _, _, _, _, _, _, _, _, rfl, hk, [], facts_nil _ _, fun w174 L175 h174 g174 => ?_⟩
  obtain ⟨y2M, _, y2E⟩ := hy2
  rw [htb] at y2E ⊢
  simp only at y2E ⊢
  refine (C.hidL h174 g174).gives (c_num _) fun w177 k177 C => ⟨_, rfl, k177, facts_nil _ _, [], facts_nil _ _, (fun _ h => h), ?_⟩
  rw [if_pos (by decide)]
  replace mA := mA.mono hm5
  replace hB := hB.mono hm5
  refine (c_OwnMC a).call (As := []) C mA fun y3 m6 w182 hk hm6 hy3 C => ⟨_, _, _, _, _, _, _, _, _, _, _, _, _, _, _, _, _, _, _, _, _, _, _, _, _, _, _, _, _, _, _, _, _, _, _, _, _, _, _, _, _, rfl, hk, facts_nil _ _, ?_⟩
  refine (c_mSame y2 y3).call (As := []) C ⟨y2M.mono hm6, hy3.1⟩ fun _ m7 w225 hk hm7 _ C => ⟨_, rfl, hk, facts_nil _ _, ?_⟩
  rw [decide_eq_true (show y2.er = y3.er by rw [y2E, hy3.2.1]), if_neg (by decide)]
  replace hB := (hB.mono hm6).mono hm7
  refine (c_Read7 q b (by omega)).call (As := []) C hB fun p m8 w228 hk hm8 hp C => ⟨_, _, _, _, _, _, _, _, _, _, _, _, _, _, _, _, _, _, _, _, _, _, _, _, _, _, _, _, _, _, _, _, _, _, _, _, _, _, _, _, _, _, rfl, hk, fun w271 L272 h271 g271 => ?_⟩
  exact back_tail m8 w _ _ q b (by omega) p hp.1 hp.2.1 hp.2.2 (hB.mono hm8) w271 L272 (C.hidL h271 g271) _ (fun w2 L3 m3 C => ⟨rfl, Ctx.at_ C⟩)
end Go.Proofs
namespace Go.Proofs.YtjphfelmaingjaaGreat
open Go X RowKit Go.ChangeShapes Go.WideShapes Go.ChangeAt Go.Proofs
theorem own : ownKnob Tryz.prog.godebug = none := by kernel_rfl
theorem wf_u8 {n : Int} (h : (Lit.int .u8 n).wf = true) : 0 ≤ n ∧ n < 256 := by
  simp [Lit.wf, IntKind.min, IntKind.max, IntKind.bits, IntKind.signed] at h; omega
theorem wf_u16 {n : Int} (h : (Lit.int .u16 n).wf = true) : 0 ≤ n ∧ n < 65536 := by
  simp [Lit.wf, IntKind.min, IntKind.max, IntKind.bits, IntKind.signed] at h; omega
theorem wf_u32 {n : Int} (h : (Lit.int .u32 n).wf = true) : 0 ≤ n ∧ n < 4294967296 := by
  simp [Lit.wf, IntKind.min, IntKind.max, IntKind.bits, IntKind.signed] at h; omega
theorem wf_u64 {n : Int} (h : (Lit.int .u64 n).wf = true) : 0 ≤ n ∧ n < 18446744073709551616 := by
  simp [Lit.wf, IntKind.min, IntKind.max, IntKind.bits, IntKind.signed] at h; omega
theorem wf_i64 {n : Int} (h : (Lit.int .i64 n).wf = true) : -9223372036854775808 ≤ n ∧ n ≤ 9223372036854775807 := by
  simp [Lit.wf, IntKind.min, IntKind.max, IntKind.bits, IntKind.signed] at h; omega
theorem wf_len {n : Nat} (h : n ≤ reachBytes) : n ≤ 281474976710656 := Nat.le_trans h (by decide)
structure EnIn (m : Mem) (a : En) : Prop where
  m : EnM0 m a
  i : EvIn a.er
structure MgIn (m : Mem) (a : Mg) : Prop where
  m : MgM0 m a
  i : MvF a.er
theorem in_map {W : Mem} {l : List En} (h : ∀ e ∈ l, EnIn W e) : ∀ e ∈ l.map En.er, EvIn e := fun e he => by
  obtain ⟨y, hy, rfl⟩ := List.mem_map.1 he
  exact (h y hy).i
section
variable {H : Type} {enc : TypeId × Value → H} {W : World} {sp : Nat → Bool} {fuel : Nat} {cs : List Value} {x : DataW H × List MemPlace}
theorem open_Pt (h : DataW.trod enc Tryz.prog W 0 sp true fuel 121 cs = some x) (hs : Small Tryz.prog 121 x.1) : ∃ a : Pt, cs = a.row ∧ PtIn a := by
  have F := fit_of_trod 60 fuel 121 _ _ (by kernel_rfl) h
  have E : cellTys Tryz.prog 60 121 = [.int .u8, .int .u8, .str, .str, .int .i64] := by kernel_rfl
  rw [E] at F
  obtain ⟨_, l0, rfl, ⟨a0, rfl, w0⟩, F1⟩ := fit_cons F
  obtain ⟨_, l1, rfl, ⟨a1, rfl, w1⟩, F2⟩ := fit_cons F1
  obtain ⟨_, l2, rfl, ⟨a2, rfl, w2⟩, F3⟩ := fit_cons F2
  obtain ⟨_, l3, rfl, ⟨a3, rfl, w3⟩, F4⟩ := fit_cons F3
  obtain ⟨_, l4, rfl, ⟨a4, rfl, w4⟩, F5⟩ := fit_cons F4
  obtain rfl := fit_nil F5
  obtain ⟨_, _, h2, h2s⟩ := trod_fieldS Tryz.underlying121 h hs 2 9 2 1 (by rfl) (by kernel_rfl)
  have b2 := small_str (s := a2) Tryz.underlying9 h2 h2s
  obtain ⟨_, _, h3, h3s⟩ := trod_fieldS Tryz.underlying121 h hs 3 9 3 1 (by rfl) (by kernel_rfl)
  have b3 := small_str (s := a3) Tryz.underlying9 h3 h3s
  exact ⟨⟨a0, a1, a2, a3, a4⟩, rfl, ⟨wf_u8 w0, wf_u8 w1, wf_i64 w4, wf_len b2, wf_len b3⟩⟩
theorem open_Wr (h : DataW.trod enc Tryz.prog W 0 sp true fuel 126 cs = some x) : ∃ a : Wr, cs = a.row ∧ True := by
  have F := fit_of_trod 60 fuel 126 _ _ (by kernel_rfl) h
  have E : cellTys Tryz.prog 60 126 = [.str, .str, .bool] := by kernel_rfl
  rw [E] at F
  obtain ⟨_, l0, rfl, ⟨a0, rfl, w0⟩, F1⟩ := fit_cons F
  obtain ⟨_, l1, rfl, ⟨a1, rfl, w1⟩, F2⟩ := fit_cons F1
  obtain ⟨_, l2, rfl, ⟨a2, rfl⟩, F3⟩ := fit_cons F2
  obtain rfl := fit_nil F3
  exact ⟨⟨a0, a1, a2⟩, rfl, trivial⟩
theorem open_Pr (h : DataW.trod enc Tryz.prog W 0 sp true fuel 26 cs = some x) : ∃ a : Pr, cs = a.row ∧ PrW a := by
  have F := fit_of_trod 60 fuel 26 _ _ (by kernel_rfl) h
  have E : cellTys Tryz.prog 60 26 = [.int .u8, .int .u16] := by kernel_rfl
  rw [E] at F
  obtain ⟨_, l0, rfl, ⟨a0, rfl, w0⟩, F1⟩ := fit_cons F
  obtain ⟨_, l1, rfl, ⟨a1, rfl, w1⟩, F2⟩ := fit_cons F1
  obtain rfl := fit_nil F2
  exact ⟨⟨a0, a1⟩, rfl, ⟨wf_u8 w0, wf_u16 w1⟩⟩
theorem open_En (h : DataW.trod enc Tryz.prog W 0 sp true fuel 124 cs = some x) (hs : Small Tryz.prog 124 x.1) : ∃ a : En, cs = a.row ∧ EnIn (memOf W) a := by
  have F := fit_of_trod 60 fuel 124 _ _ (by kernel_rfl) h
  have E : cellTys Tryz.prog 60 124 = [.int .u8, .int .u8, .int .u16, .int .u32, .int .u8, .int .u8, .int .u8, .int .u8, .int .u8, .int .u8, .int .u8, .int .u32, .slice, .int .u8, .str, .slice, .int .u8, .int .u16] := by kernel_rfl
  rw [E] at F
  obtain ⟨_, l0, rfl, ⟨a0, rfl, w0⟩, F1⟩ := fit_cons F
  obtain ⟨_, l1, rfl, ⟨a1, rfl, w1⟩, F2⟩ := fit_cons F1
  obtain ⟨_, l2, rfl, ⟨a2, rfl, w2⟩, F3⟩ := fit_cons F2
  obtain ⟨_, l3, rfl, ⟨a3, rfl, w3⟩, F4⟩ := fit_cons F3
  obtain ⟨_, l4, rfl, ⟨a4, rfl, w4⟩, F5⟩ := fit_cons F4
  obtain ⟨_, l5, rfl, ⟨a5, rfl, w5⟩, F6⟩ := fit_cons F5
  obtain ⟨_, l6, rfl, ⟨a6, rfl, w6⟩, F7⟩ := fit_cons F6
  obtain ⟨_, l7, rfl, ⟨a7, rfl, w7⟩, F8⟩ := fit_cons F7
  obtain ⟨_, l8, rfl, ⟨a8, rfl, w8⟩, F9⟩ := fit_cons F8
  obtain ⟨_, l9, rfl, ⟨a9, rfl, w9⟩, F10⟩ := fit_cons F9
  obtain ⟨_, l10, rfl, ⟨a10, rfl, w10⟩, F11⟩ := fit_cons F10
  obtain ⟨_, l11, rfl, ⟨a11, rfl, w11⟩, F12⟩ := fit_cons F11
  obtain ⟨_, l12, rfl, ⟨q12, n12, c12, rfl, w12, z12⟩, F13⟩ := fit_cons F12
  obtain ⟨_, l13, rfl, ⟨a13, rfl, w13⟩, F14⟩ := fit_cons F13
  obtain ⟨_, l14, rfl, ⟨a14, rfl, w14⟩, F15⟩ := fit_cons F14
  obtain ⟨_, l15, rfl, ⟨q15, n15, c15, rfl, w15, z15⟩, F16⟩ := fit_cons F15
  obtain ⟨_, l16, rfl, ⟨a16, rfl, w16⟩, F17⟩ := fit_cons F16
  obtain ⟨_, l17, rfl, ⟨a17, rfl, w17⟩, F18⟩ := fit_cons F17
  obtain rfl := fit_nil F18
  obtain ⟨_, _, h3, h3s⟩ := trod_fieldS Tryz.underlying124 h hs 3 32 12 1 (by rfl) (by kernel_rfl)
  obtain ⟨q12', c12', s12, e12, b12, m12, p12⟩ := trod_listS Tryz.underlying32 (k := 5) (by kernel_rfl) (by omega) h3 h3s (B := 48) (by kernel_rfl) pt_len (φ := PtIn) (fun g ec y h hs => open_Pt h hs)
  have e12' : [Value.slice q12 n12 c12] = [Value.slice q12' s12.length c12'] := e12
  injection e12' with e12' _
  injection e12' with f12 g12 k12
  subst f12; subst g12; subst k12
  obtain ⟨_, _, h4, h4s⟩ := trod_fieldS Tryz.underlying124 h hs 4 34 13 2 (by rfl) (by kernel_rfl)
  obtain ⟨_, _, h4_1, h4_1s⟩ := trod_fieldS Tryz.underlying34 h4 h4s 1 9 1 1 (by rfl) (by kernel_rfl)
  have b14 := small_str (s := a14) Tryz.underlying9 h4_1 h4_1s
  obtain ⟨_, _, h5, h5s⟩ := trod_fieldS Tryz.underlying124 h hs 5 122 15 1 (by rfl) (by kernel_rfl)
  obtain ⟨q15', c15', s15, e15, b15, m15, p15⟩ := trod_listS Tryz.underlying122 (k := 3) (by kernel_rfl) (by omega) h5 h5s (B := 40) (by kernel_rfl) wr_len (φ := fun _ : Wr => True) (fun g ec y h hs => open_Wr h)
  have e15' : [Value.slice q15 n15 c15] = [Value.slice q15' s15.length c15'] := e15
  injection e15' with e15' _
  injection e15' with f15 g15 k15
  subst f15; subst g15; subst k15
  exact ⟨⟨a0, ⟨a1, a2, a3, a4, a5, a6, a7, a8, a9, a10⟩, a11, (q12, c12), s12, a13, a14, (q15, c15), s15, a16, a17⟩, rfl, ⟨⟨m12, m15⟩, ⟨wf_u8 w0, ⟨wf_u8 w1, wf_u16 w2, wf_u32 w3, wf_u8 w4, wf_u8 w5, wf_u8 w6, wf_u8 w7, wf_u8 w8, wf_u8 w9, wf_u8 w10⟩, wf_u32 w11, p12, wf_u8 w13, wf_len b14, wf_u8 w16, wf_u16 w17⟩⟩⟩
theorem open_Mg (h : DataW.trod enc Tryz.prog W 0 sp true fuel 40 cs = some x) (hs : Small Tryz.prog 40 x.1) : ∃ a : Mg, cs = a.row ∧ MgIn (memOf W) a := by
  have F := fit_of_trod 60 fuel 40 _ _ (by kernel_rfl) h
  have E : cellTys Tryz.prog 60 40 = [.int .u8, .int .u8, .int .u8, .int .u32, .int .u32, .int .u32, .int .u32, .int .u64, .int .u64, .int .u8, .int .u16, .int .u32, .int .u8, .int .u8, .int .u8, .int .u8, .int .u8, .int .u8, .int .u8, .slice, .int .u8, .str, .int .u8, .int .u32, .slice, .int .u8, .int .u16, .bool, .slice, .slice, .slice] := by kernel_rfl
  rw [E] at F
  obtain ⟨_, l0, rfl, ⟨a0, rfl, w0⟩, F1⟩ := fit_cons F
  obtain ⟨_, l1, rfl, ⟨a1, rfl, w1⟩, F2⟩ := fit_cons F1
  obtain ⟨_, l2, rfl, ⟨a2, rfl, w2⟩, F3⟩ := fit_cons F2
  obtain ⟨_, l3, rfl, ⟨a3, rfl, w3⟩, F4⟩ := fit_cons F3
  obtain ⟨_, l4, rfl, ⟨a4, rfl, w4⟩, F5⟩ := fit_cons F4
  obtain ⟨_, l5, rfl, ⟨a5, rfl, w5⟩, F6⟩ := fit_cons F5
  obtain ⟨_, l6, rfl, ⟨a6, rfl, w6⟩, F7⟩ := fit_cons F6
  obtain ⟨_, l7, rfl, ⟨a7, rfl, w7⟩, F8⟩ := fit_cons F7
  obtain ⟨_, l8, rfl, ⟨a8, rfl, w8⟩, F9⟩ := fit_cons F8
  obtain ⟨_, l9, rfl, ⟨a9, rfl, w9⟩, F10⟩ := fit_cons F9
  obtain ⟨_, l10, rfl, ⟨a10, rfl, w10⟩, F11⟩ := fit_cons F10
  obtain ⟨_, l11, rfl, ⟨a11, rfl, w11⟩, F12⟩ := fit_cons F11
  obtain ⟨_, l12, rfl, ⟨a12, rfl, w12⟩, F13⟩ := fit_cons F12
  obtain ⟨_, l13, rfl, ⟨a13, rfl, w13⟩, F14⟩ := fit_cons F13
  obtain ⟨_, l14, rfl, ⟨a14, rfl, w14⟩, F15⟩ := fit_cons F14
  obtain ⟨_, l15, rfl, ⟨a15, rfl, w15⟩, F16⟩ := fit_cons F15
  obtain ⟨_, l16, rfl, ⟨a16, rfl, w16⟩, F17⟩ := fit_cons F16
  obtain ⟨_, l17, rfl, ⟨a17, rfl, w17⟩, F18⟩ := fit_cons F17
  obtain ⟨_, l18, rfl, ⟨a18, rfl, w18⟩, F19⟩ := fit_cons F18
  obtain ⟨_, l19, rfl, ⟨q19, n19, c19, rfl, w19, z19⟩, F20⟩ := fit_cons F19
  obtain ⟨_, l20, rfl, ⟨a20, rfl, w20⟩, F21⟩ := fit_cons F20
  obtain ⟨_, l21, rfl, ⟨a21, rfl, w21⟩, F22⟩ := fit_cons F21
  obtain ⟨_, l22, rfl, ⟨a22, rfl, w22⟩, F23⟩ := fit_cons F22
  obtain ⟨_, l23, rfl, ⟨a23, rfl, w23⟩, F24⟩ := fit_cons F23
  obtain ⟨_, l24, rfl, ⟨q24, n24, c24, rfl, w24, z24⟩, F25⟩ := fit_cons F24
  obtain ⟨_, l25, rfl, ⟨a25, rfl, w25⟩, F26⟩ := fit_cons F25
  obtain ⟨_, l26, rfl, ⟨a26, rfl, w26⟩, F27⟩ := fit_cons F26
  obtain ⟨_, l27, rfl, ⟨a27, rfl⟩, F28⟩ := fit_cons F27
  obtain ⟨_, l28, rfl, ⟨q28, n28, c28, rfl, w28, z28⟩, F29⟩ := fit_cons F28
  obtain ⟨_, l29, rfl, ⟨q29, n29, c29, rfl, w29, z29⟩, F30⟩ := fit_cons F29
  obtain ⟨_, l30, rfl, ⟨q30, n30, c30, rfl, w30, z30⟩, F31⟩ := fit_cons F30
  obtain rfl := fit_nil F31
  obtain ⟨_, _, h10, h10s⟩ := trod_fieldS Tryz.underlying40 h hs 10 32 19 1 (by rfl) (by kernel_rfl)
  obtain ⟨q19', c19', s19, e19, b19, m19, p19⟩ := trod_listS Tryz.underlying32 (k := 5) (by kernel_rfl) (by omega) h10 h10s (B := 48) (by kernel_rfl) pt_len (φ := PtIn) (fun g ec y h hs => open_Pt h hs)
  have e19' : [Value.slice q19 n19 c19] = [Value.slice q19' s19.length c19'] := e19
  injection e19' with e19' _
  injection e19' with f19 g19 k19
  subst f19; subst g19; subst k19
  obtain ⟨_, _, h11, h11s⟩ := trod_fieldS Tryz.underlying40 h hs 11 34 20 2 (by rfl) (by kernel_rfl)
  obtain ⟨_, _, h11_1, h11_1s⟩ := trod_fieldS Tryz.underlying34 h11 h11s 1 9 1 1 (by rfl) (by kernel_rfl)
  have b21 := small_str (s := a21) Tryz.underlying9 h11_1 h11_1s
  obtain ⟨_, _, h12, h12s⟩ := trod_fieldS Tryz.underlying40 h hs 12 37 22 3 (by rfl) (by kernel_rfl)
  obtain ⟨_, _, h12_2, h12_2s⟩ := trod_fieldS Tryz.underlying37 h12 h12s 2 35 2 1 (by rfl) (by kernel_rfl)
  obtain ⟨q24', c24', s24, e24, b24, m24, p24⟩ := trod_listS Tryz.underlying35 (k := 2) (by kernel_rfl) (by omega) h12_2 h12_2s (B := 4) (by kernel_rfl) pr_len (φ := PrW) (fun g ec y h hs => open_Pr h)
  have e24' : [Value.slice q24 n24 c24] = [Value.slice q24' s24.length c24'] := e24
  injection e24' with e24' _
  injection e24' with f24 g24 k24
  subst f24; subst g24; subst k24
  obtain ⟨_, _, h15, h15s⟩ := trod_fieldS Tryz.underlying40 h hs 15 35 28 1 (by rfl) (by kernel_rfl)
  obtain ⟨q28', c28', s28, e28, b28, m28, p28⟩ := trod_listS Tryz.underlying35 (k := 2) (by kernel_rfl) (by omega) h15 h15s (B := 4) (by kernel_rfl) pr_len (φ := PrW) (fun g ec y h hs => open_Pr h)
  have e28' : [Value.slice q28 n28 c28] = [Value.slice q28' s28.length c28'] := e28
  injection e28' with e28' _
  injection e28' with f28 g28 k28
  subst f28; subst g28; subst k28
  obtain ⟨_, _, h16, h16s⟩ := trod_fieldS Tryz.underlying40 h hs 16 38 29 1 (by rfl) (by kernel_rfl)
  obtain ⟨q29', c29', s29, e29, b29, m29, p29⟩ := trod_listS Tryz.underlying38 (k := 18) (by kernel_rfl) (by omega) h16 h16s (B := 104) (by kernel_rfl) en_len (φ := EnIn (memOf W)) (fun g ec y h hs => open_En h hs)
  have e29' : [Value.slice q29 n29 c29] = [Value.slice q29' s29.length c29'] := e29
  injection e29' with e29' _
  injection e29' with f29 g29 k29
  subst f29; subst g29; subst k29
  obtain ⟨_, _, h17, h17s⟩ := trod_fieldS Tryz.underlying40 h hs 17 38 30 1 (by rfl) (by kernel_rfl)
  obtain ⟨q30', c30', s30, e30, b30, m30, p30⟩ := trod_listS Tryz.underlying38 (k := 18) (by kernel_rfl) (by omega) h17 h17s (B := 104) (by kernel_rfl) en_len (φ := EnIn (memOf W)) (fun g ec y h hs => open_En h hs)
  have e30' : [Value.slice q30 n30 c30] = [Value.slice q30' s30.length c30'] := e30
  injection e30' with e30' _
  injection e30' with f30 g30 k30
  subst f30; subst g30; subst k30
  exact ⟨⟨a0, a1, a2, a3, a4, a5, a6, a7, a8, ⟨a9, a10, a11, a12, a13, a14, a15, a16, a17, a18⟩, (q19, c19), s19, a20, a21, a22, a23, (q24, c24), s24, a25, a26, a27, (q28, c28), s28, (q29, c29), s29, (q30, c30), s30⟩, rfl, ⟨⟨m19, m24, m28, ⟨m29, fun e he => (p29 e he).m⟩, ⟨m30, fun e he => (p30 e he).m⟩, by have := b19.2; have := reach_lt; show s19.length ≤ _; omega⟩, ⟨⟨⟨wf_u8 w9, wf_u16 w10, wf_u32 w11, wf_u8 w12, wf_u8 w13, wf_u8 w14, wf_u8 w15, wf_u8 w16, wf_u8 w17, wf_u8 w18⟩, p19, fun p hp => (p24 p hp).n.1, fun p hp => (p28 p hp).n.1, in_map p29, in_map p30, wf_u8 w1, (wf_u32 w23).1, wf_u32 w4, wf_u8 w0, ⟨(wf_u32 w3).1, by have := (wf_u32 w3).2; show a3 < _; omega⟩, wf_u64 w7⟩, wf_u8 w2, wf_u32 w5, wf_u32 w6, wf_u64 w8, wf_u8 w20, wf_u8 w22, (wf_u32 w23).2, (wf_u32 w3).2, p24, p28, wf_u8 w25, wf_u16 w26⟩⟩⟩
end
end Go.Proofs.YtjphfelmaingjaaGreat
