import Derived.Test.YtfbjellaijdgbaaDoorXGen3
set_option linter.unusedVariables false
set_option linter.unusedSimpArgs false
/- The engine, part 6: 'gen' is sound; one operation, guarded or not; plain regions. -/
namespace Go.X
open Go
section
variable {P : Program} {bs : Nat → Nat} {B : Nat} {s : St} {a : Act} {w : World} {g : Option (Nat × Bool)} {o : Oper} {next : St → Prop} {Q : Exit → Act → World → Prop}

theorem allJ_elim {n : Nat} {p : Nat → Prop} (h : allJ n p) : ∀ j, j < n → p j := by
  induction n with
  | zero => intro j hj; omega
  | succ n ih =>
    intro j hj
    cases n with
    | zero => obtain rfl : j = 0 := by omega
              exact h
    | succ n =>
      obtain ⟨h1, h2⟩ := h
      by_cases e : j = n + 1
      · subst e; exact h2
      · exact ih h1 j (by omega)

theorem slcOf_spec {t : TypeId} {z : Nat} (h : slcOf P t = some z) : ∃ e i, P.underlying t = some (.slice e) ∧ P.info? e = some i ∧ i.size = z := by
  unfold slcOf at h
  split at h
  · rename_i e hu
    unfold szOf at h
    cases hi : P.info? e with
    | none => simp [hi] at h
    | some i => exact ⟨e, i, hu, hi, by simpa [hi] using h⟩
  · cases h
theorem arrOf_spec {t : TypeId} {n z : Nat} (h : arrOf P t = some (n, z)) : ∃ e i, P.underlying t = some (.array n e) ∧ P.info? e = some i ∧ i.size = z := by
  unfold arrOf at h
  split at h
  · rename_i m e hu
    unfold szOf at h
    cases hi : P.info? e with
    | none => simp [hi] at h
    | some i =>
      simp only [hi, Option.map_some, Option.some.injEq, Prod.mk.injEq] at h
      obtain ⟨rfl, rfl⟩ := h
      exact ⟨e, i, hu, hi, rfl⟩
  · cases h
theorem run_indexAt_slc {t : TypeId} {z : Nat} (hA : slcOf P t = some z) {k : IntKind} {m : Int} {len cap : Nat} (hm : 0 ≤ m ∧ m < len) (ad : Addr) (w : World) :
    (Instr.indexAt t (.slice (some ad) len cap) (.int k m)).run P w = .ok (.pointer (some (ad.add (m.toNat * z)))) w := by
  obtain ⟨e, i, hu, hi, rfl⟩ := slcOf_spec hA
  simp [Instr.indexAt, asIntOf, run_underlying hu, hm, sizeOf, typeInfo, hi]

theorem genP_sound (h : genP P g o s next) (hi : Inv bs B s a w) (hg : GH g a.tmps) : ∃ x : B0, next (setb s o x) ∧ ∀ w', (execOp a.eval o).run P w' = .ok (.value (x.real bs)) w' := by
  unfold genP at h
  split at h
  case h_1 t x f hop =>
    split at h
    · rename_i d p hf hx
      obtain ⟨ad, rfl, hk⟩ := onSome_elim h
      have he : a.eval x = .pointer (some ad) := hi.ov_ hg hx
      exact ⟨.v _, hk, fun w => by simp only [execOp, hop, he]; rw [Sem.run_bind, run_fieldAt hf]; rfl⟩
    · exact h.elim
  case h_2 x hop =>
    split at h
    · rename_i p hx
      obtain ⟨ad, rfl, hk⟩ := onSome_elim h
      have he : a.eval x = .pointer (some ad) := hi.ov_ hg hx
      exact ⟨.v _, hk, fun w => by simp only [execOp, hop, he, Sem.run_pure, B0.real]⟩
    · exact h.elim
  case h_3 t x ix hop =>
    split at h
    · rename_i q len cap k m hx hix
      split at h
      · rename_i z hz
        obtain ⟨h0, h1, h⟩ := h
        obtain ⟨ad, rfl, hk⟩ := onSome_elim h
        have he : a.eval x = .slice (some ad) len cap := hi.ov_ hg hx
        exact ⟨.v _, hk, fun w => by simp only [execOp, hop, he, hi.val_ hg hix]; rw [Sem.run_bind, run_indexAt_slc hz ⟨h0, h1⟩]; rfl⟩
      · exact h.elim
    · rename_i p k m hx hix
      split at h
      · rename_i n z hz
        obtain ⟨h0, h1, h⟩ := h
        obtain ⟨ad, rfl, hk⟩ := onSome_elim h
        have he : a.eval x = .pointer (some ad) := hi.ov_ hg hx
        exact ⟨.v _, hk, fun w => by simp only [execOp, hop, he, hi.val_ hg hix]; rw [Sem.run_bind, run_indexAt_arr hz ⟨h0, h1⟩]; rfl⟩
      · exact h.elim
    · rename_i i off k m hx hix
      split at h
      · rename_i n z hz
        obtain ⟨h0, h1, h⟩ := h
        have hk := allJ_elim h m.toNat (by omega) (by omega)
        have he : a.eval x = .pointer (some ⟨bs i, off, none⟩) := hi.ov_ hg hx
        exact ⟨.loc i (off + m.toNat * z), hk, fun w => by simp only [execOp, hop, he, hi.val_ hg hix]; rw [Sem.run_bind, run_indexAt_arr hz ⟨h0, h1⟩, Addr.add_mid]; rfl⟩
      · exact h.elim
    · exact h.elim
  case h_4 t x lo hi' mx hop =>
    have R : ∀ {vx vl vh vm r} {w : World}, a.eval x = vx → lo.map a.eval = vl → hi'.map a.eval = vh → mx.map a.eval = vm → (Instr.sliceAt t vx vl vh vm).run P w = .ok r w → (execOp a.eval o).run P w = .ok (.value r) w := by
      intro vx vl vh vm r w e1 e2 e3 e4 hr
      simp only [execOp, hop, e1, e2, e3, e4]
      rw [Sem.run_bind, hr]; rfl
    have M : ∀ {y : Option Operand} {v : Value}, y.map (val g s.fr) = some (some v) → y.map a.eval = some v := by
      intro y v h
      cases y with
      | none => cases h
      | some z => simp only [Option.map_some, Option.some.injEq] at h ⊢; exact hi.val_ hg h
    have N : ∀ {y : Option Operand}, y.map (val g s.fr) = none → y.map a.eval = none := by
      intro y h
      cases y with
      | none => rfl
      | some z => cases h
    split at h
    · rename_i q len cap hx
      have he : a.eval x = .slice q len cap := hi.ov_ hg hx
      split at h
      · rename_i z hz hl hh
        obtain ⟨e, i, hu, hq, rfl⟩ := slcOf_spec hz
        refine ⟨.v _, h, fun w => R he (N hl) (N hh) rfl ?_⟩
        simp [B0.real, Instr.sliceAt, Instr.slice, run_underlying hu, Instr.sliceBounds, sizeOf, typeInfo, hq, cutA]
      · rename_i z k l hz hl hh
        obtain ⟨h1, h2, h⟩ := h
        obtain ⟨e, i, hu, hq, rfl⟩ := slcOf_spec hz
        refine ⟨.v _, h, fun w => R he (M hl) (N hh) rfl ?_⟩
        simp [B0.real, Instr.sliceAt, Instr.slice, run_underlying hu, Instr.sliceBounds, Instr.sliceBound, asIntOf, sizeOf, typeInfo, hq, cutA, h1, h2]
      · rename_i z k h' hz hl hh
        obtain ⟨h1, h2, h⟩ := h
        obtain ⟨e, i, hu, hq, rfl⟩ := slcOf_spec hz
        refine ⟨.v _, h, fun w => R he (N hl) (M hh) rfl ?_⟩
        simp [B0.real, Instr.sliceAt, Instr.slice, run_underlying hu, Instr.sliceBounds, Instr.sliceBound, asIntOf, sizeOf, typeInfo, hq, cutA, h1, h2]
      · rename_i z k l k' h' hz hl hh
        obtain ⟨h1, h2, h3, h4, h⟩ := h
        obtain ⟨e, i, hu, hq, rfl⟩ := slcOf_spec hz
        refine ⟨.v _, h, fun w => R he (M hl) (M hh) rfl ?_⟩
        have h5 : l ≤ max h' 0 := by omega
        simp [B0.real, Instr.sliceAt, Instr.slice, run_underlying hu, Instr.sliceBounds, Instr.sliceBound, asIntOf, sizeOf, typeInfo, hq, cutA, h1, h2, h3, h5]
      · rename_i z k h' y hz hl hh
        split at h
        · rename_i k2 m hm
          obtain ⟨h1, h2, h3, h4, h⟩ := h
          obtain ⟨e, i, hu, hq, rfl⟩ := slcOf_spec hz
          refine ⟨.v _, h, fun w => R he (N hl) (M hh) (vm := some (.int k2 m)) (by simp only [Option.map_some]; rw [hi.val_ hg hm]) ?_⟩
          have h5 : h' ≤ max m 0 := by omega
          simp [B0.real, Instr.sliceAt, Instr.slice, run_underlying hu, Instr.sliceBounds, Instr.sliceBound, asIntOf, sizeOf, typeInfo, hq, cutA, h1, h2, h3, h5]
        · exact h.elim
      · rename_i z k l k' h' y hz hl hh
        split at h
        · rename_i k2 m hm
          obtain ⟨h1, h2, h3, h4, h5, h6, h⟩ := h
          obtain ⟨e, i, hu, hq, rfl⟩ := slcOf_spec hz
          refine ⟨.v _, h, fun w => R he (M hl) (M hh) (vm := some (.int k2 m)) (by simp only [Option.map_some]; rw [hi.val_ hg hm]) ?_⟩
          have h7 : h' ≤ max m 0 := by omega
          have h8 : l ≤ max h' 0 := by omega
          simp [B0.real, Instr.sliceAt, Instr.slice, run_underlying hu, Instr.sliceBounds, Instr.sliceBound, asIntOf, sizeOf, typeInfo, hq, cutA, h1, h2, h3, h5, h7, h8]
        · exact h.elim
      · exact h.elim
    · rename_i b hx
      have he : a.eval x = .string b := hi.ov_ hg hx
      split at h
      · rename_i k l hu hl hh
        obtain ⟨h1, h2, h⟩ := h
        refine ⟨.v _, h, fun w => R he (M hl) (N hh) rfl ?_⟩
        simp [B0.real, Instr.sliceAt, Instr.slice, run_underlying hu, Instr.sliceBounds, Instr.sliceBound, asIntOf, h1, h2]
      · rename_i k h' hu hl hh
        obtain ⟨h1, h2, h⟩ := h
        refine ⟨.v _, h, fun w => R he (N hl) (M hh) rfl ?_⟩
        simp [B0.real, Instr.sliceAt, Instr.slice, run_underlying hu, Instr.sliceBounds, Instr.sliceBound, asIntOf, h1, h2]
      · rename_i k l k' h' hu hl hh
        obtain ⟨h1, h2, h3, h4, h⟩ := h
        refine ⟨.v _, h, fun w => R he (M hl) (M hh) rfl ?_⟩
        have h5 : l ≤ max h' 0 := by omega
        simp [B0.real, Instr.sliceAt, Instr.slice, run_underlying hu, Instr.sliceBounds, Instr.sliceBound, asIntOf, h1, h2, h3, h5]
      · exact h.elim
    · rename_i ad hx
      have he : a.eval x = .pointer (some ad) := hi.ov_ hg hx
      split at h
      · rename_i n z hA hl hh
        obtain ⟨e, i, hu, hq, rfl⟩ := arrOf_spec hA
        refine ⟨.v _, h, fun w => R he (N hl) (N hh) rfl ?_⟩
        simp [B0.real, Instr.sliceAt, run_underlying hu, Instr.sliceBounds, Instr.sureAddr, sizeOf, typeInfo, hq, Addr.add_zero']
      · rename_i n z k h' hA hl hh
        obtain ⟨h1, h2, h⟩ := h
        obtain ⟨e, i, hu, hq, rfl⟩ := arrOf_spec hA
        refine ⟨.v _, h, fun w => R he (N hl) (M hh) rfl ?_⟩
        simp [B0.real, Instr.sliceAt, run_underlying hu, Instr.sliceBounds, Instr.sliceBound, Instr.sureAddr, asIntOf, sizeOf, typeInfo, hq, h1, h2, Addr.add_zero']
      · exact h.elim
    · exact h.elim
  case h_5 t x ix hop =>
    split at h
    · rename_i b k m hx hix
      split at h
      · rename_i hu
        obtain ⟨h1, c, hc, h⟩ := h
        refine ⟨.v _, h, fun w => ?_⟩
        have hc' : b[m.toNat]? = some c := by rw [← hc]; rfl
        simp [B0.real, execOp, hop, hi.val_ hg hx, hi.val_ hg hix, Instr.index, asIntOf, run_underlying hu, h1, hc']
      · exact h.elim
    · rename_i cs k m hx hix
      split at h
      · rename_i n' e n z hu hA
        obtain ⟨h1, h2, h⟩ := h
        obtain ⟨e', i, hu', hq, rfl⟩ := arrOf_spec hA
        rw [hu] at hu'
        injection hu' with hu'
        injection hu' with e1 e2
        subst e1; subst e2
        have hk := allJ_elim h m.toNat (by omega) (by omega)
        obtain ⟨v, hp, hn⟩ := onSome_elim hk
        refine ⟨.v _, hn, fun w => ?_⟩
        simp only [execOp, hop, hi.val_ hg hx, hi.val_ hg hix, Instr.index, asIntOf, Sem.run_bind, Sem.run_pure, Result.andThen_ok, run_underlying hu]
        rw [if_pos ⟨h1, h2⟩]
        simp only [sizeOf, typeInfo, Sem.run_bind, run_program, Result.andThen_ok, hq, Sem.run_pure, run_part hp, B0.real]
      · exact h.elim
    · exact h.elim
  case h_6 op t x y yt hop =>
    split at h
    · rename_i vx vy hx hy
      have R : ∀ {r} {w : World}, (do eqGuard op t x y vx vy; binOp op t vx vy : Sem Value).run P w = .ok r w → (execOp a.eval o).run P w = .ok (.value r) w := by
        intro r w hr
        simp only [execOp, hop, hi.val_ hg hx, hi.val_ hg hy]
        rw [Sem.run_bind, hr]; rfl
      split at h
      · rename_i b c
        obtain ⟨h1, h⟩ := h
        refine ⟨.v _, h, fun w => R ?_⟩
        rw [eqGuard_at_string, Sem.run_bind, Sem.run_pure, Result.andThen_ok]
        simp only [binOp, Op.stringOp]
        rw [if_neg (by omega)]
        rfl
      · split at h
        · rename_i hk
          subst hk
          obtain ⟨h1, h⟩ := h
          refine ⟨.v _, h, fun w => R ?_⟩
          simp [B0.real, eqGuard_at_int, binOp, Op.intDiv, h1]
        · exact h.elim
      · split at h
        · rename_i hk
          subst hk
          obtain ⟨h1, h⟩ := h
          refine ⟨.v _, h, fun w => R ?_⟩
          simp [B0.real, eqGuard_at_int, binOp, Op.intDiv, h1]
        · exact h.elim
      · obtain ⟨h1, h⟩ := h
        refine ⟨.v _, h, fun w => R ?_⟩
        have : ¬ (_ : Int) < 0 := Int.not_lt.2 h1
        simp [B0.real, eqGuard_at_int, binOp, Op.shift, this]
      · obtain ⟨h1, h⟩ := h
        refine ⟨.v _, h, fun w => R ?_⟩
        have : ¬ (_ : Int) < 0 := Int.not_lt.2 h1
        simp [B0.real, eqGuard_at_int, binOp, Op.shift, this]
      · exact h.elim
    · exact h.elim
  case h_7 => exact h.elim
theorem has_dst {l : List Nat} {dst : Option Nat} {n : Nat} (h : has l dst = true) : ∀ i, dst ≠ some i → (fun j => if j = dst.getD 0 then n else bs j) i = bs i := by
  intro i hi
  cases dst with
  | none => cases h
  | some d => exact if_neg (fun e => hi (by rw [e]; rfl))
theorem gen_sound {H : Hints} (h : gen P B H g o s next) (hi : Inv bs B s a w) (hg : GH g a.tmps) : o.wp P a w (Res bs o.dst B next) Q := by
  unfold gen at h
  split at h
  · obtain ⟨x, hn, hr⟩ := genP_sound h hi hg
    exact setb_sound hi (hr w) hn
  split at h
  case h_1 t hop =>
    split at h
    · rename_i z hz
      split at h
      · rename_i hl
        have hr : (execOp a.eval o).run P w = .ok (.value (.pointer (some ⟨w.heap.size, 0, none⟩))) (w.alloc (.cells z.cells.toList.toArray t)) := by
          cases hq : P.info? t with
          | none => simp [hq] at hz
          | some i =>
            have : i.zero = some z := by simpa [hq] using hz
            simp [execOp, hop, Instr.alloc, zeroValue, typeInfo, hq, this, newVar, newRow]
        exact wp_value hr ⟨_, _, h, hi.allocL_ (o.dst.getD 0) z.cells.toList t o.dst, has_dst hl⟩
      · exact newOp_sound h hi hg (fun cs b e => by rw [hop] at e; cases e)
    · exact h.elim
  case h_2 t x hop =>
    split at h
    · rename_i v hv
      split at h
      · rename_i hl
        have hr : (execOp a.eval o).run P w = .ok (.value (.pointer (some ⟨w.heap.size, 0, none⟩))) (w.alloc (.cells v.cells.toList.toArray t)) := by
          simp [execOp, hop, hi.val_ hg hv, Instr.box, newVar, newRow]
        exact wp_value hr ⟨_, _, h, hi.allocL_ (o.dst.getD 0) v.cells.toList t o.dst, has_dst hl⟩
      · exact newOp_sound h hi hg (fun cs b e => by rw [hop] at e; cases e)
    · exact h.elim
  case h_3 hop => exact newOp_sound h hi hg (fun cs b e => by rw [hop] at e; cases e)
  case h_4 hop => exact newOp_sound h hi hg (fun cs b e => by rw [hop] at e; cases e)
  case h_5 t x hop =>
    split at h
    · rename_i p hx
      obtain ⟨ad, rfl, hk⟩ := onSome_elim h
      obtain ⟨v, hr, hn⟩ := ld_sound hi hk
      have he : a.eval x = .pointer (some ad) := hi.ov_ hg hx
      exact setv_sound hi (by simp only [execOp, hop, he]; rw [Sem.run_bind, hr]; rfl) hn
    · exact h.elim
  case h_6 t x y hop =>
    split at h
    · rename_i i off v hx hy
      split at h
      · rename_i bk hb
        split at h
        · rename_i hc
          simp only [Bool.and_eq_true, beq_iff_eq, decide_eq_true_eq] at hc
          obtain ⟨⟨hz, hfit⟩, h1⟩ := hc
          have he : a.eval x = .pointer (some ⟨bs i, off, none⟩) := hi.ov_ hg hx
          have hr : (execOp a.eval o).run P w = .ok .skip (w.setRow (bs i) (splice bk.cells off v.cells.toList).toArray) := by
            simp only [execOp, hop, he, hi.val_ hg hy]
            rw [Sem.run_bind, run_storeAt_row (hi.blk i bk hb).1 hz hfit h1]
            rfl
          exact wp_skip_ hr ⟨bs, _, h, (hi.storeL hb _).putB o.dst (.v undef) undef rfl, fun _ _ => rfl⟩
        · exact h.elim
      · exact h.elim
    · rename_i p v hx hy
      obtain ⟨ad, rfl, hk⟩ := onSome_elim h
      split at hk
      · rename_i hc
        simp only [Bool.and_eq_true, beq_iff_eq] at hc
        obtain ⟨hz, h1⟩ := hc
        obtain ⟨L', ⟨hsp, hth, hgd⟩, hL⟩ := sync_sound hk hi
        obtain ⟨hnb, hn⟩ := guardL_elim hgd
        have he : a.eval x = .pointer (some ad) := hi.ov_ hg hx
        obtain ⟨b, off, sp⟩ := ad
        simp only at hsp hth hnb hn
        subst hsp
        have hs : (storeCells ⟨b, off, none⟩ v.cells.toList 0).run P w = .ok () (w.setCells b (off + 0) v.cells.toList) :=
          run_storeCells_cells (P := P) b off v.cells.toList 0 w (fun j hj => by simpa using (hth j (by simpa using hj)).1) (fun j hj => by simpa using (hth j (by simpa using hj)).2)
            (fun x hx => by rw [← oneC_eq]; exact (List.all_eq_true.1 h1) x hx)
        have hr : (execOp a.eval o).run P w = .ok .skip (w.setCells b off v.cells.toList) := by
          cases hq : P.info? t with
          | none => simp [szOf, hq] at hz
          | some i =>
            have hsz : i.size = v.cells.size := by simpa [szOf, hq] using hz
            simp only [Nat.add_zero] at hs
            simp [execOp, hop, he, hi.val_ hg hy, Instr.storeAt, Instr.sureAddr, storeVar, sizeOf, typeInfo, hq, hsz, hs]
        have hblk : ∀ (vs : List Value) (o : Nat) (w : World) (k : Nat), k ≠ b → (w.setCells b o vs).heap[k]? = w.heap[k]? := by
          intro vs
          induction vs with
          | nil => intro o w k _; rfl
          | cons v vs ih => intro o w k hk; rw [World.setCells, ih _ _ k hk]; exact RowKit.Below.heap_setCell _ _ _ _ hk
        have hsize : ∀ (vs : List Value) (o : Nat) (w : World), (w.setCells b o vs).heap.size = w.heap.size := by
          intro vs
          induction vs with
          | nil => intro o w; rfl
          | cons v vs ih => intro o w; rw [World.setCells, ih]; simp [World.setCell]
        have hkept : Kept (Lof L') w (w.setCells b off v.cells.toList) := ⟨Nat.le_of_eq (hsize _ _ _).symm, fun k hk => hblk _ _ _ _ (fun e => hnb (by rw [← e]; exact hk))⟩
        exact wp_skip_ hr ⟨bs, _, hn, (hi.event hL.1 hL.2 hkept).putB o.dst (.v undef) undef rfl, fun _ _ => rfl⟩
      · exact hk.elim
    · exact h.elim
  case h_7 hop => exact rawOp_sound h hi hg (fun cs b e => by rw [hop] at e; cases e)
  case h_8 hop => exact callOp_sound h hi hg (fun cs b e => by rw [hop] at e; cases e)
  case h_9 => 
    refine rawOp_sound h hi hg (fun cs b e => ?_)
    unfold rawOp at h
    split at h
    · simp [semV, semU, e] at h
    · exact h
end
end Go.X
