import Derived.Test.YtfhjpjkecjlmjaaU08f
set_option linter.unusedVariables false
set_option linter.unusedSimpArgs false
set_option maxRecDepth 10000
namespace Go.Proofs
open Go X RowKit
/-! ### how far two texts differ -/
/-- what 'differs' tells -/
def DiffP (a b : List UInt8) (d : Int) : Prop :=
  (a.length ≠ b.length ∧ d = -1) ∨ (a.length = b.length ∧ ((d = 0 ∧ a = b) ∨ ∃ i j : Nat, i ≤ j ∧ j < a.length ∧ a.getD i 0 ≠ b.getD i 0 ∧ a.getD j 0 ≠ b.getD j 0 ∧ d = (j : Int) - i + 1))
def DiffI (a b : List UInt8) (k : Nat) (f l : Int) : Prop :=
  (f = -1 ∧ ∀ j, j < k → a.getD j 0 = b.getD j 0) ∨ ∃ i j : Nat, f = i ∧ l = j ∧ i ≤ j ∧ j < k ∧ a.getD i 0 ≠ b.getD i 0 ∧ a.getD j 0 ≠ b.getD j 0
theorem c_differs (a b : List UInt8) (qa qb : Option Addr) (ca cb : Nat) (hl : a.length ≤ 1000000) :
    Ctr Try.prog 17 #[.slice qa a.length ca, .slice qb b.length cb] (fun m => MSrc m 1 (.slice qa a.length ca) a.length (byV a) ∧ MSrc m 1 (.slice qb b.length cb) b.length (byV b)) [] (fun d : Int => .int .i64 d) (fun d _ => DiffP a b d) (fun _ => []) := by
  refine Ctr.mk fun w F m C hp => x_gemotlaw08_differs _ _ _ _ _ _ w _ ?_
  by_cases hab : a.length = b.length
  · rw [if_neg (by simp [hab])]
    refine ⟨fun f l n w' _ => ∃ k : Nat, n = k ∧ k ≤ a.length ∧ DiffI a b k f l ∧ Ctx F m w w' [] m [], fun _ _ n _ => (a.length - n).toNat, ⟨0, rfl, by omega, .inl ⟨rfl, fun j hj => by omega⟩, C⟩, ?_⟩
    rintro f l n w6 L7 _ ⟨k, rfl, hk, hd, C⟩
    by_cases hlt : k < a.length
    · rw [if_pos (by simpa using hlt)]
      refine ⟨by omega, by omega, ?_⟩
      obtain ⟨pa, rfl, ha⟩ := hp.1.cells hlt
      obtain ⟨pb, rfl, hb⟩ := hp.2.cells (show k < b.length by omega)
      have ga : w6.cell? (pa.add (k * 1)) = some (.int .u8 (a[k].toNat : Int)) := by
        have := C.cells ha 0 _ (by rw [List.getElem?_take, if_pos (by omega), List.getElem?_drop, Nat.mul_one, Nat.add_zero]; exact byV_get a k hlt)
        rwa [Addr.add_zero'] at this
      have gb : w6.cell? (pb.add (k * 1)) = some (.int .u8 ((b[k]'(by omega)).toNat : Int)) := by
        have := C.cells hb 0 _ (by rw [List.getElem?_take, if_pos (by omega), List.getElem?_drop, Nat.mul_one, Nat.add_zero]; exact byV_get b k (by omega))
        rwa [Addr.add_zero'] at this
      rw [onSome_some]
      refine ⟨_, by simpa using ga, by omega, by omega, ?_⟩
      rw [onSome_some]
      refine ⟨_, by simpa using gb, ?_⟩
      have da : a.getD k 0 = a[k] := by rw [List.getD_eq_getElem?_getD, List.getElem?_eq_getElem hlt]; rfl
      have db : b.getD k 0 = b[k]'(by omega) := by rw [List.getD_eq_getElem?_getD, List.getElem?_eq_getElem (by omega)]; rfl
      have e : IntKind.wrap .i64 ((k : Int) + 1) = ((k + 1 : Nat) : Int) := by rw [w_i64 (by omega) (by omega)]; omega
      have hms : ((a.length : Int) - ((k + 1 : Nat) : Int)).toNat + 1 ≤ ((a.length : Int) - (k : Int)).toNat := by omega
      by_cases hne : a[k] = b[k]'(by omega)
      · rw [if_neg (by simp [hne])]
        intro w12 h12
        rw [e]
        refine ⟨⟨k + 1, rfl, hlt, ?_, C.hid0 h12⟩, hms⟩
        rcases hd with ⟨h1, h2⟩ | ⟨i, j, h1, h2, h3, h4, h5, h6⟩
        · refine .inl ⟨h1, fun j hj => ?_⟩
          by_cases hjk : j = k
          · subst hjk; rw [da, db, hne]
          · exact h2 j (by omega)
        · exact .inr ⟨i, j, h1, h2, h3, by omega, h5, h6⟩
      · have hne' : a.getD k 0 ≠ b.getD k 0 := by rw [da, db]; exact hne
        rw [if_pos (by
          simp only [bne_iff_ne, ne_eq]
          intro h
          exact hne (UInt8.toNat_inj.1 (by omega)))]
        by_cases hf : f < 0
        · rw [if_pos (by simpa using hf)]
          intro w14 h14
          rw [e]
          exact ⟨⟨k + 1, rfl, hlt, .inr ⟨k, k, rfl, rfl, by omega, by omega, hne', hne'⟩, C.hid0 h14⟩, hms⟩
        · rw [if_neg (by simpa using hf)]
          intro w13 h13
          rw [e]
          refine ⟨⟨k + 1, rfl, hlt, ?_, C.hid0 h13⟩, hms⟩
          rcases hd with ⟨h1, h2⟩ | ⟨i, j, h1, h2, h3, h4, h5, h6⟩
          · omega
          · exact .inr ⟨i, k, h1, rfl, by omega, by omega, h5, hne'⟩
    · rw [if_neg (by simpa using hlt)]
      rcases hd with ⟨h1, h2⟩ | ⟨i, j, h1, h2, h3, h4, h5, h6⟩
      · rw [if_pos (by simp [h1])]
        refine Ctr.ret 0 rfl (.inr ⟨hab, .inl ⟨rfl, ?_⟩⟩) C
        refine List.ext_getElem hab fun i q1 q2 => ?_
        have := h2 i (by omega)
        rw [List.getD_eq_getElem?_getD, List.getElem?_eq_getElem q1, List.getD_eq_getElem?_getD, List.getElem?_eq_getElem q2] at this
        exact this
      · rw [if_neg (by simp; omega)]
        have e2 : IntKind.wrap .i64 (IntKind.wrap .i64 (l - f) + 1) = (j : Int) - i + 1 := by
          rw [h1, h2, w_i64 (n := (j : Int) - i) (by omega) (by omega), w_i64 (by omega) (by omega)]
        rw [e2]
        exact Ctr.ret _ rfl (.inr ⟨hab, .inr ⟨i, j, h3, by omega, h5, h6, rfl⟩⟩) C
  · rw [if_pos (by simp; omega)]
    exact Ctr.ret (-1) rfl (.inl ⟨hab, rfl⟩) C
/-! ### what is spoilt -/
theorem spoil_out (bs : List UInt8) (a : Nat) (mask : Int) (j i : Nat) (h : i < a ∨ a + j ≤ i) : (spoil bs a mask j).getD i 0 = bs.getD i 0 := by
  induction j with
  | zero => rfl
  | succ j ih =>
    simp only [spoil]
    rw [List.getD_eq_getElem?_getD, List.getElem?_set, if_neg (by omega), ← List.getD_eq_getElem?_getD]
    exact ih (by omega)
theorem spoil_in (bs : List UInt8) (a : Nat) (mask : Int) (j i : Nat) (hi : i < j) (hl : a + j ≤ bs.length) : (spoil bs a mask j).getD (a + i) 0 = spb (bs.getD (a + i) 0) mask i := by
  induction j with
  | zero => omega
  | succ j ih =>
    simp only [spoil]
    by_cases hij : i = j
    · subst hij
      rw [List.getD_eq_getElem?_getD, List.getElem?_set, if_pos rfl, if_pos (by rw [spoil_len]; omega)]
      simp only [Option.getD_some]
      rw [spoil_out _ _ _ _ _ (by omega)]
    · rw [List.getD_eq_getElem?_getD, List.getElem?_set, if_neg (by omega), ← List.getD_eq_getElem?_getD]
      exact ih (by omega) (by omega)
theorem spb_ne (o : UInt8) (mask : Int) (j : Nat) (hj : j < 4) (h0 : 0 ≤ mask) (h : (mask / 2 ^ (8 * j)) % 256 ≠ 0) : spb o mask j ≠ o := by
  intro e
  unfold spb at e
  have e0 : min (8 * j) 32 = 8 * j := by omega
  rw [e0] at e
  have ef : mask.fdiv (2 ^ (8 * j)) = mask / 2 ^ (8 * j) := by rw [Int.fdiv_eq_ediv_of_nonneg]; exact Int.pow_nonneg (by omega)
  rw [ef] at e
  have hw : IntKind.u8.wrap (mask / 2 ^ (8 * j)) = (mask / 2 ^ (8 * j)) % 256 := by simp [IntKind.wrap, IntKind.bits, IntKind.signed]
  rw [hw] at e
  generalize hx : (mask / 2 ^ (8 * j)) % 256 = x at *
  have hx0 : 0 ≤ x := by rw [← hx]; exact Int.emod_nonneg _ (by omega)
  have hx1 : x < 256 := by rw [← hx]; exact Int.emod_lt_of_pos _ (by omega)
  have h1 : (BitVec.ofInt 8 (o.toNat : Int) ^^^ BitVec.ofInt 8 x).toNat = o.toNat := by
    have := congrArg UInt8.toNat e
    have hlt := (BitVec.ofInt 8 (o.toNat : Int) ^^^ BitVec.ofInt 8 x).isLt
    rw [UInt8.toNat_ofNat', Nat.mod_eq_of_lt hlt] at this
    exact this
  have h2 : BitVec.ofInt 8 (o.toNat : Int) ^^^ BitVec.ofInt 8 x = BitVec.ofInt 8 (o.toNat : Int) := by
    apply BitVec.eq_of_toNat_eq
    rw [h1, BitVec.toNat_ofInt]
    have := o.toNat_lt
    omega
  have h3 : BitVec.ofInt 8 x = 0#8 := by
    have := congrArg (fun y => BitVec.ofInt 8 (o.toNat : Int) ^^^ y) h2
    simpa [← BitVec.xor_assoc] using this
  have h4 := congrArg BitVec.toNat h3
  rw [BitVec.toNat_ofInt] at h4
  simp at h4
  omega
theorem spoil_ne (bs : List UInt8) (a : Nat) (mask : Int) (hm : 0 < mask) (hm2 : mask < 4294967296) (hl : a + 4 ≤ bs.length) : spoil bs a mask 4 ≠ bs := by
  intro e
  have key : ∀ j, j < 4 → (mask / 2 ^ (8 * j)) % 256 = 0 := fun j hj => by
    by_cases h : (mask / 2 ^ (8 * j)) % 256 = 0
    · exact h
    · have h1 := spoil_in bs a mask 4 j hj hl
      rw [e] at h1
      exact absurd h1.symm (spb_ne _ _ _ hj (by omega) h)
  have k0 := key 0 (by omega)
  have k1 := key 1 (by omega)
  have k2 := key 2 (by omega)
  have k3 := key 3 (by omega)
  simp at k0 k1 k2 k3
  omega
/-- what 'differs' says of what was spoilt -/
theorem diff_spoil {bs : List UInt8} {a : Nat} {mask d : Int} (hm : 0 < mask) (hm2 : mask < 4294967296) (hl : a + 4 ≤ bs.length) (h : DiffP bs (spoil bs a mask 4) d) : 1 ≤ d ∧ d ≤ 4 := by
  have hlen := spoil_len bs a mask 4
  rcases h with ⟨h1, _⟩ | ⟨_, ⟨_, h⟩ | ⟨i, j, h1, h2, h3, h4, rfl⟩⟩
  · omega
  · exact absurd h.symm (spoil_ne bs a mask hm hm2 hl)
  · have hi : ¬ (i < a ∨ a + 4 ≤ i) := fun h => h3 (spoil_out bs a mask 4 i h).symm
    have hj : ¬ (j < a ∨ a + 4 ≤ j) := fun h => h4 (spoil_out bs a mask 4 j h).symm
    omega
theorem diff_self {bs : List UInt8} {d : Int} (h : DiffP bs bs d) : d = 0 := by
  rcases h with ⟨h1, _⟩ | ⟨_, ⟨h, _⟩ | ⟨i, j, h1, h2, h3, h4, rfl⟩⟩
  · exact absurd rfl h1
  · exact h
  · exact absurd rfl h3
/-! ### acts -/
structure Act where (kd i at_ mask : Int) (p : Pc) (q : Option Addr) (c : Nat)
def Act.row (a : Act) : List Value := [.int .i64 a.kd, .int .i64 a.i, .int .i64 a.at_, .int .u32 a.mask, .int .u8 a.p.fn, .int .u16 a.p.fl, .int .u8 a.p.tn, .int .u16 a.p.tl, .slice a.q a.p.bs.length a.c, .bool a.p.bad]
theorem acrow_len (a : Act) : a.row.length = 10 := rfl
/-- acts that can be read -/
structure Acts (m : Mem) (q : Option Addr) (c : Nat) (l : List Act) : Prop where
  src : MSrc m 10 (.slice q l.length c) l.length (l.flatMap Act.row)
  byt : ∀ a ∈ l, MSrc m 1 (.slice a.q a.p.bs.length a.c) a.p.bs.length (byV a.p.bs)
  mask : ∀ a ∈ l, 0 ≤ a.mask ∧ a.mask < 4294967296
  i : ∀ a ∈ l, -9223372036854775808 ≤ a.i ∧ a.i < 9223372036854775808
def lightN (l : List Act) (left : Int) : Int := l.foldl (fun s a => s - min (a.p.bs.length : Int) 6000) left
def light (l : List Act) : Bool := decide ((l.length : Int) ≤ 100) && decide (lightN (l.take 200) 5000 ≥ 0)
theorem lightN_le (l : List Act) : ∀ (s : Int), lightN l s ≤ s ∧ ∀ a ∈ l, lightN l s ≤ s - min (a.p.bs.length : Int) 6000 := by
  induction l with
  | nil => intro s; exact ⟨Int.le_refl _, fun a h => by cases h⟩
  | cons a l ih =>
    intro s
    obtain ⟨h1, h2⟩ := ih (s - min (a.p.bs.length : Int) 6000)
    have e : lightN (a :: l) s = lightN l (s - min (a.p.bs.length : Int) 6000) := rfl
    rw [e]
    refine ⟨by omega, fun b hb => ?_⟩
    rcases List.mem_cons.1 hb with rfl | hb
    · exact h1
    · have := h2 b hb; omega
theorem light_spec {l : List Act} (h : light l = true) : l.length ≤ 100 ∧ ∀ a ∈ l, a.p.bs.length ≤ 5000 := by
  simp only [light, Bool.and_eq_true, decide_eq_true_eq] at h
  obtain ⟨h1, h2⟩ := h
  refine ⟨by omega, fun a ha => ?_⟩
  rw [List.take_of_length_le (by omega)] at h2
  have := (lightN_le l 5000).2 a ha
  omega
theorem lightN_snoc (l : List Act) (a : Act) (s : Int) : lightN (l ++ [a]) s = lightN l s - min (a.p.bs.length : Int) 6000 := by simp [lightN]
theorem lightN_lo (l : List Act) : ∀ (s : Int), s - 6000 * l.length ≤ lightN l s := by
  induction l with
  | nil => intro s; simp [lightN]
  | cons a l ih =>
    intro s
    have := ih (s - min (a.p.bs.length : Int) 6000)
    have e : lightN (a :: l) s = lightN l (s - min (a.p.bs.length : Int) 6000) := rfl
    rw [e, List.length_cons]; omega
theorem c_light (q : Option Addr) (c : Nat) (l : List Act) (hn : l.length ≤ maxLen) :
    Ctr Try.prog 7 #[.slice q l.length c] (fun m => Acts m q c l) [] (fun _ : Unit => .bool (light l)) (fun _ _ => True) (fun _ => []) := by
  refine Ctr.mk fun w F m C hp => x_gemotlaw08_light _ _ _ w _ ?_
  refine ⟨fun s n w' _ => ∃ k : Nat, n = k ∧ k ≤ l.length ∧ k ≤ 200 ∧ s = lightN (l.take k) 5000 ∧ Ctx F m w w' [] m [], fun _ n _ => (200 - n).toNat, ⟨0, rfl, by omega, by omega, rfl, C⟩, ?_⟩
  rintro s n w5 L6 _ ⟨k, rfl, hk, hk2, rfl, C⟩
  have hlo := lightN_lo (l.take k) 5000
  have hup := (lightN_le (l.take k) 5000).1
  rw [List.length_take] at hlo
  by_cases hlt : k < l.length ∧ k < 200
  · rw [if_pos (by simp; omega)]
    refine ⟨by omega, by omega, ?_⟩
    obtain ⟨pa, rfl, ha⟩ := hp.src.cells hlt.1
    rw [onSome_some]
    have hel := l[k]'hlt.1
    have hc : w5.cell? ((pa.add (k * 10)).add 8) = some (.slice (l[k]'hlt.1).q (l[k]'hlt.1).p.bs.length (l[k]'hlt.1).c) := by
      refine C.cells ha 8 _ ?_
      rw [List.getElem?_take, if_pos (by omega), List.getElem?_drop]
      exact flat_at acrow_len l k hlt.1 8 _ rfl
    refine ⟨(l[k]'hlt.1).q, (l[k]'hlt.1).p.bs.length, (l[k]'hlt.1).c, by rw [Int.toNat_natCast]; exact hc, ?_⟩
    have e1 : lightN (l.take (k + 1)) 5000 = lightN (l.take k) 5000 - min ((l[k]'hlt.1).p.bs.length : Int) 6000 := by
      rw [List.take_succ_eq_append_getElem hlt.1, lightN_snoc]
    have e2 : (if 6000 < ((l[k]'hlt.1).p.bs.length : Int) then 6000 else ((l[k]'hlt.1).p.bs.length : Int)) = min ((l[k]'hlt.1).p.bs.length : Int) 6000 := by split <;> omega
    have e3 : IntKind.wrap .i64 ((k : Int) + 1) = ((k + 1 : Nat) : Int) := by rw [w_i64 (by omega) (by omega)]; omega
    rw [e2, e3, ← e1, w_i64 (n := lightN (l.take (k + 1)) 5000) (by omega) (by omega)]
    refine ⟨⟨k + 1, rfl, by omega, by omega, rfl, C⟩, ?_⟩
    show (200 - ((k + 1 : Nat) : Int)).toNat + 1 ≤ (200 - (k : Int)).toNat
    omega
  · rw [if_neg (by simp; omega)]
    refine Ctr.ret () ?_ trivial C
    have e : l.take k = l.take 200 := by
      by_cases h : k = 200
      · rw [h]
      · have : k = l.length := by omega
        rw [this, List.take_of_length_le (Nat.le_refl _), List.take_of_length_le (by omega)]
    rw [e]; rfl
end Go.Proofs
