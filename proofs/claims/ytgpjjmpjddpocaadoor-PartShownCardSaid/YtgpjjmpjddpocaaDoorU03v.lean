import Derived.Test.YtgpjjmpjddpocaaDoorU03u
set_option linter.unusedVariables false
set_option linter.unusedSimpArgs false
set_option maxRecDepth 10000
namespace Go.Proofs
open Go X RowKit
/-! ### unlike right parts of letters are shown unlike -/
def dval (l : List UInt8) : Nat := l.foldl (fun a b => a * 10 + (b.toNat - 48)) 0
theorem dval_push (l : List UInt8) (b : UInt8) : dval (l ++ [b]) = dval l * 10 + (b.toNat - 48) := by simp [dval]
theorem dig_toNat (d : Nat) (h : d < 10) : (UInt8.ofNat (48 + d)).toNat = 48 + d := by
  have : (UInt8.ofNat (48 + d)).toNat = (48 + d) % 256 := rfl
  rw [this, Nat.mod_eq_of_lt (by omega)]
theorem dval_dec (u : Nat) : dval (Lib.decDigits u) = u := by
  induction u using Nat.strongRecOn with
  | _ u ih =>
    by_cases h : u < 10
    · rw [Lib.decDigits_one h]
      show dval ([] ++ [UInt8.ofNat (48 + u)]) = u
      rw [dval_push, dig_toNat u h]; simp [dval]
    · rw [dig_rec u h, Lib.decDigits_one (i := u % 10) (by omega), dval_push, ih (u / 10) (by omega), dig_toNat _ (by omega)]
      omega
theorem itoa_inj {a b : Int} (ha : 0 ≤ a) (hb : 0 ≤ b) (h : Lib.itoa a = Lib.itoa b) : a = b := by
  obtain ⟨u, rfl⟩ : ∃ u : Nat, a = u := ⟨a.toNat, by omega⟩
  obtain ⟨v, rfl⟩ : ∃ u : Nat, b = u := ⟨b.toNat, by omega⟩
  have e : ∀ u : Nat, Lib.itoa (u : Int) = Lib.decDigits u := fun u => by rw [Lib.itoa, if_neg (by omega)]; rfl
  rw [e, e] at h
  have := congrArg dval h
  rw [dval_dec, dval_dec] at this
  omega
def isLet (b : UInt8) : Bool := decide (97 ≤ b.toNat) && decide (b.toNat ≤ 122)
theorem split_let {d : UInt8} (hd : isLet d = false) : ∀ {l1 l2 r1 r2 : List UInt8}, l1.all isLet = true → l2.all isLet = true → l1 ++ d :: r1 = l2 ++ d :: r2 → l1 = l2 ∧ r1 = r2
  | [], [], _, _, _, _, h => ⟨rfl, by simpa using h⟩
  | [], b :: l2, _, _, _, h2, h => by
    simp only [List.nil_append, List.cons_append, List.cons.injEq] at h
    rw [← h.1] at h2
    simp [hd] at h2
  | a :: l1, [], _, _, h1, _, h => by
    simp only [List.nil_append, List.cons_append, List.cons.injEq] at h
    rw [h.1] at h1
    simp [hd] at h1
  | a :: l1, b :: l2, r1, r2, h1, h2, h => by
    simp only [List.cons_append, List.cons.injEq] at h
    simp only [List.all_cons, Bool.and_eq_true] at h1 h2
    obtain ⟨e1, e2⟩ := split_let hd h1.2 h2.2 h.2
    exact ⟨by rw [h.1, e1], e2⟩
def bodyL (p : Pt) : List UInt8 :=
  if p.k = 0 then 82 :: ([101, 97, 100, 40] ++ (bl p.key ++ 41 :: []))
   else if p.k = 1 then 87 :: ([114, 105, 116, 101, 40] ++ (bl p.key ++ 61 :: (bl p.val ++ [41])))
   else if p.k = 2 then 65 :: ([100, 100, 40] ++ (bl p.key ++ 43 :: (Lib.itoa p.n ++ [41])))
   else if p.k = 3 then 84 :: ([97, 107, 101, 40] ++ (bl p.key ++ 45 :: (Lib.itoa p.n ++ [41])))
   else if p.k = 4 then 69 :: ([114, 97, 115, 101, 40] ++ (bl p.key ++ 41 :: [])) else [63]
theorem show_body (p : Pt) : showL p = Lib.itoa p.g ++ 58 :: bodyL p := by
  unfold showL bodyL
  (repeat' split) <;> simp
theorem right_k {p : Pt} (h : p.right = true) : p.g < 4 ∧ p.fits = true := by
  simp only [Pt.right, Bool.and_eq_true, decide_eq_true_eq] at h
  exact ⟨h.1.1.1, h.2⟩
theorem size0 {a b : ByteArray} (ha : a.size = 0) (hb : b.size = 0) : a = b := by
  refine bl_ext ?_
  have h1 : a.data.toList = [] := List.eq_nil_of_length_eq_zero (by rw [data_len]; exact ha)
  have h2 : b.data.toList = [] := List.eq_nil_of_length_eq_zero (by rw [data_len]; exact hb)
  rw [h1, h2]
theorem show_inj {p q : Pt} (hp : PtIn p) (hq : PtIn q) (rp : p.right = true) (rq : q.right = true) (lp : (bl p.key).all isLet = true) (lq : (bl q.key).all isLet = true) (h : showL p = showL q) : p = q := by
  rw [show_body, show_body] at h
  obtain ⟨gp, fp⟩ := right_k rp
  obtain ⟨gq, fq⟩ := right_k rq
  have g1 := hp.g
  have g2 := hq.g
  obtain ⟨u, hu⟩ : ∃ u : Nat, p.g = u := ⟨p.g.toNat, by omega⟩
  obtain ⟨v, hv⟩ : ∃ u : Nat, q.g = u := ⟨q.g.toNat, by omega⟩
  rw [hu, hv, itoa_small u (by omega), itoa_small v (by omega)] at h
  simp only [List.cons_append, List.nil_append, List.cons.injEq, true_and] at h
  have hg : p.g = q.g := by
    have := congrArg UInt8.toNat h.1
    rw [dig_toNat u (by omega), dig_toNat v (by omega)] at this
    omega
  have hb := h.2
  clear h
  -- the kinds
  have kk : ∀ {x : Pt}, x.fits = true → x.k = 0 ∨ x.k = 1 ∨ x.k = 2 ∨ x.k = 3 ∨ x.k = 4 := fun {x} hf => by
    unfold Pt.fits at hf
    by_cases h1 : x.k = 1
    · exact .inr (.inl h1)
    rw [if_neg h1] at hf
    by_cases h2 : x.k = 2 ∨ x.k = 3
    · rcases h2 with h2 | h2
      · exact .inr (.inr (.inl h2))
      · exact .inr (.inr (.inr (.inl h2)))
    rw [if_neg h2] at hf
    by_cases h3 : x.k = 0 ∨ x.k = 4
    · rcases h3 with h3 | h3
      · exact .inl h3
      · exact .inr (.inr (.inr (.inr h3)))
    rw [if_neg h3] at hf; cases hf
  have head : ∀ {x : Pt}, x.fits = true → (bodyL x).head? = some (if x.k = 0 then 82 else if x.k = 1 then 87 else if x.k = 2 then 65 else if x.k = 3 then 84 else 69) := fun {x} hf => by
    unfold bodyL
    rcases kk hf with h | h | h | h | h <;> simp [h]
  have hk : p.k = q.k := by
    have e := congrArg List.head? hb
    rw [head fp, head fq] at e
    rcases kk fp with h | h | h | h | h <;> rcases kk fq with h' | h' | h' | h' | h' <;> first | (rw [h, h']; done) | (rw [h, h'] at e; simp at e)
  have n41 : isLet 41 = false := by decide
  have fin : p.key = q.key → p.val = q.val → p.n = q.n → p = q := fun a b c => pt_ext ⟨hg, hk, a, b, c⟩
  unfold Pt.fits at fp fq
  unfold bodyL at hb
  rcases kk (x := p) (by unfold Pt.fits; exact fp) with h | h | h | h | h
  · have h' : q.k = 0 := by rw [← hk]; exact h
    simp only [h, h', if_true, List.cons_append, List.nil_append, List.cons.injEq, true_and] at hb
    obtain ⟨e1, _⟩ := split_let n41 lp lq hb
    simp [h] at fp
    simp [h'] at fq
    exact fin (bl_ext e1) (size0 (by simpa using fp.1) (by simpa using fq.1)) (by omega)
  · have h' : q.k = 1 := by rw [← hk]; exact h
    simp [h, h'] at hb
    obtain ⟨e1, e2⟩ := split_let (by decide) lp lq hb
    have e3 := List.append_cancel_right e2
    simp [h] at fp
    simp [h'] at fq
    exact fin (bl_ext e1) (bl_ext e3) (by omega)
  · have h' : q.k = 2 := by rw [← hk]; exact h
    simp [h, h'] at hb
    obtain ⟨e1, e2⟩ := split_let (by decide) lp lq hb
    have e3 := List.append_cancel_right e2
    simp [h] at fp
    simp [h'] at fq
    exact fin (bl_ext e1) (size0 (by simpa using fp.1) (by simpa using fq.1)) (itoa_inj fp.2 fq.2 e3)
  · have h' : q.k = 3 := by rw [← hk]; exact h
    simp [h, h'] at hb
    obtain ⟨e1, e2⟩ := split_let (by decide) lp lq hb
    have e3 := List.append_cancel_right e2
    simp [h] at fp
    simp [h'] at fq
    exact fin (bl_ext e1) (size0 (by simpa using fp.1) (by simpa using fq.1)) (itoa_inj fp.2 fq.2 e3)
  · have h' : q.k = 4 := by rw [← hk]; exact h
    simp [h, h'] at hb
    simp [h] at fp
    simp [h'] at fq
    exact fin (ByteArray.ext hb) (size0 (by simpa using fp.1) (by simpa using fq.1)) (by omega)
theorem c_letters (s : ByteArray) (hs : s.size ≤ 1125899906842624) : Gives Tryd.prog 8 #[.string s] (.bool ((bl s).all isLet)) := by
  intro w
  refine x_letters _ w _ ?_
  refine ⟨fun n w' _ => ∃ i : Nat, n = i ∧ i ≤ s.size ∧ ((bl s).take i).all isLet = true ∧ Bel w.heap.size w w', fun n _ => (s.size - n).toNat, ⟨0, rfl, by omega, rfl, below_refl _ _⟩, ?_⟩
  rintro n w4 L5 _ ⟨i, rfl, hi, hall, hb⟩
  have hl : (bl s).length = s.size := data_len s
  by_cases hlt : i < s.size
  · rw [if_pos (by simpa using hlt)]
    have hil : i < (bl s).length := by omega
    have hat : s.data[(i : Int).toNat]? = some (bl s)[i] := by
      rw [Int.toNat_natCast, ← Array.getElem?_toList, List.getElem?_eq_getElem hil]
    have hf : ∀ {b : Bool}, isLet (bl s)[i] = false → b = false → (bl s).all isLet = b := fun h e => by
      rw [e, Bool.eq_false_iff]; intro ha
      have := List.all_eq_true.1 ha _ (List.getElem_mem hil)
      rw [h] at this; cases this
    refine ⟨by omega, _, hat, ?_⟩
    by_cases h1 : (((bl s)[i].toNat : Nat) : Int) < 97
    · rw [if_neg (by simpa using h1)]
      exact ⟨by rw [hf (by rw [isLet, decide_eq_false (by omega : ¬ 97 ≤ (bl s)[i].toNat)]; rfl) rfl], hb⟩
    rw [if_pos (by simpa using h1)]
    refine ⟨by omega, _, hat, ?_⟩
    by_cases h2 : (((bl s)[i].toNat : Nat) : Int) > 122
    · rw [if_pos (by simpa using h2)]
      exact ⟨by rw [hf (by rw [isLet, decide_eq_false (by omega : ¬ (bl s)[i].toNat ≤ 122), Bool.and_false]) rfl], hb⟩
    rw [if_neg (by simpa using h2), w1n i (by omega)]
    refine ⟨⟨i + 1, rfl, hlt, ?_, hb⟩, Nat.le_of_eq (by show ((s.size : Int) - ((i + 1 : Nat) : Int)).toNat + 1 = ((s.size : Int) - (i : Int)).toNat; omega)⟩
    rw [List.take_succ_eq_append_getElem hil, List.all_append, hall]
    have h3 : isLet (bl s)[i] = true := by rw [isLet, decide_eq_true (by omega : 97 ≤ (bl s)[i].toNat), decide_eq_true (by omega : (bl s)[i].toNat ≤ 122)]; rfl
    rw [List.all_cons, h3]; rfl
  · rw [if_neg (by simpa using hlt)]
    have e : (bl s).take i = bl s := List.take_of_length_le (by omega)
    rw [e] at hall
    exact ⟨by rw [hall], hb⟩
theorem l_PartShown (w : World) (hT : Tab w) (p q : Pt) (hp : PtIn p) (hq : PtIn q) : Calls Tryd.prog 3 #[.agg p.row.toArray, .agg q.row.toArray] w (LawR w) := by
  refine x_PartShown _ _ _ _ _ _ _ _ _ _ w _ fun w1 L2 h1 g1 => ?_
  have C := (lawStart w).hidL h1 g1
  have s1 := hp.key
  have s2 := hp.val
  have s3 := hq.key
  have s4 := hq.val
  refine C.gives (c_Part p) fun w4 k4 C => ⟨_, _, _, _, _, rfl, k4, fun w10 L11 h10 g10 => ?_⟩
  refine (C.hidL h10 g10).gives (c_Part q) fun w13 k13 C => ⟨_, _, _, _, _, rfl, k13, fun w19 L20 h19 g19 => ?_⟩
  refine (C.hidL h19 g19).gives (c_PRight p) fun w22 k22 C => ⟨_, rfl, k22, ?_⟩
  by_cases rp : p.right = true
  rotate_left
  · rw [if_neg (by simp [rp])]
    exact c_knows C hT fun w25 m2 hk _ C => ⟨_, rfl, hk, rfl, Ctx.at_ C⟩
  rw [if_pos (by simp [rp])]
  refine C.gives (c_PRight q) fun w28 k28 C => ⟨_, rfl, k28, ?_⟩
  by_cases rq : q.right = true
  rotate_left
  · rw [if_neg (by simp [rq])]
    exact c_knows C hT fun w25 m2 hk _ C => ⟨_, rfl, hk, rfl, Ctx.at_ C⟩
  rw [if_pos (by simp [rq])]
  refine ⟨by omega, C.gives (c_letters (p.key ++ p.val) (by rw [ByteArray.size_append]; omega)) fun w34 k34 C => ⟨_, rfl, k34, ?_⟩⟩
  by_cases lp : (bl (p.key ++ p.val)).all isLet = true
  rotate_left
  · rw [if_neg (by simp only [Bool.eq_false_iff.2 lp]; decide)]
    exact c_knows C hT fun w25 m2 hk _ C => ⟨_, rfl, hk, rfl, Ctx.at_ C⟩
  rw [if_pos (by simp only [lp]; decide)]
  refine ⟨by omega, C.gives (c_letters (q.key ++ q.val) (by rw [ByteArray.size_append]; omega)) fun w40 k40 C => ⟨_, rfl, k40, ?_⟩⟩
  by_cases lq : (bl (q.key ++ q.val)).all isLet = true
  rotate_left
  · rw [if_neg (by simp only [Bool.eq_false_iff.2 lq]; decide)]
    exact c_knows C hT fun w25 m2 hk _ C => ⟨_, rfl, hk, rfl, Ctx.at_ C⟩
  rw [if_pos (by simp only [lq]; decide)]
  refine c_knows C hT fun w46 m2 hk _ C => ⟨_, rfl, hk, ?_⟩
  rw [if_neg (by decide)]
  refine ⟨[], facts_nil _ _, fun w49 L50 h49 g49 => ?_⟩
  refine ctx_givesT (C.hidL h49 g49) hT (c_Show p hp) fun w52 k52 C => ⟨_, rfl, k52, facts_nil _ _, ?_⟩
  refine ctx_givesT C hT (c_Show q hq) fun w55 k55 C => ⟨_, rfl, k55, facts_nil _ _, ?_, Ctx.at_ C⟩
  rw [bl, bl_app, List.all_append, Bool.and_eq_true] at lp lq
  rw [toBA_beq, pt_eq]
  have : decide (showL p = showL q) = decide (p = q) := by
    rw [decide_eq_decide]
    exact ⟨fun h => show_inj hp hq rp rq lp.1 lq.1 h, fun h => by rw [h]⟩
  rw [this]; simp
end Go.Proofs
