import Derived.Test.YtfbjellaijdgbaaDoorXGen2
set_option linter.unusedVariables false
set_option linter.unusedSimpArgs false
/- The engine, part 5: the general operation is sound. -/
namespace Go.X
open Go
section
variable {P : Program} {bs : Nat → Nat} {B : Nat} {s : St} {a : Act} {w : World} {g : Option (Nat × Bool)} {o : Oper} {next : St → Prop} {Q : Exit → Act → World → Prop}

theorem setv_sound (hi : Inv bs B s a w) {v : Value} (hr : (execOp a.eval o).run P w = .ok (.value v) w) (hn : next (setv s o v)) : o.wp P a w (Res bs o.dst B next) Q :=
  wp_value hr ⟨bs, _, hn, hi.putB o.dst (.v v) v rfl, fun _ _ => rfl⟩
theorem setb_sound (hi : Inv bs B s a w) {x : B0} (hr : (execOp a.eval o).run P w = .ok (.value (x.real bs)) w) (hn : next (setb s o x)) : o.wp P a w (Res bs o.dst B next) Q :=
  wp_value hr ⟨bs, _, hn, hi.putB o.dst x _ rfl, fun _ _ => rfl⟩
theorem ev_sound (hi : Inv bs B s a w) {L' : Option (List Nat)} (hL : (∀ i b, look s.loc i = some b → bs i ∈ Lof L') ∧ (∀ b, b ∈ Lof L' → b < w.heap.size ∧ B ≤ b)) {v : Value} {w2 : World}
    (hr : (execOp a.eval o).run P w = .ok (.value v) w2) (hk : keptL L' w w2 (next (setev s o v w2 L'))) : o.wp P a w (Res bs o.dst B next) Q := by
  obtain ⟨hk, hn⟩ := keptL_elim hk
  exact wp_value hr ⟨bs, _, hn, (hi.event hL.1 hL.2 hk).putB o.dst (.v v) v rfl, fun _ _ => rfl⟩
theorem evu_sound (hi : Inv bs B s a w) {L' : Option (List Nat)} (hL : (∀ i b, look s.loc i = some b → bs i ∈ Lof L') ∧ (∀ b, b ∈ Lof L' → b < w.heap.size ∧ B ≤ b)) {w2 : World}
    (hr : (execOp a.eval o).run P w = .ok .skip w2) (hk : keptL L' w w2 (next (setev s o undef w2 L'))) : o.wp P a w (Res bs o.dst B next) Q := by
  obtain ⟨hk, hn⟩ := keptL_elim hk
  exact wp_skip_ hr ⟨bs, _, hn, (hi.event hL.1 hL.2 hk).putB o.dst (.v undef) undef rfl, fun _ _ => rfl⟩

theorem Inv.cell (hi : Inv bs B s a w) {ad : Addr} {v : Value} (hc : s.u.cell? ad = some v) (hn : ad.block ∉ Lof s.L) : w.cell? ad = some v := by
  have hlt : ad.block < s.u.heap.size := World.block_lt_of_cell? s.u ad hc
  have := hi.hid.block ad.block hlt hn
  rw [World.cell?_of_block this]; exact hc

theorem addr_block (ad : Addr) (n : Nat) : (ad.add n).block = ad.block := by unfold Addr.add; split <;> rfl

theorem ld_sound (hi : Inv bs B s a w) {t : TypeId} {ad : Addr} {k : Value → Prop} (h : ldVC P s t ad k) : ∃ v, (Instr.loadAt t (.pointer (some ad))).run P w = .ok v w ∧ k v := by
  unfold ldVC at h
  simp only [Instr.loadAt, Instr.sureAddr, Sem.run_bind, Sem.run_pure, Result.andThen_ok]
  split at h
  · rename_i ha
    split at h
    · rename_i hz
      simp only [Bool.and_eq_true, beq_iff_eq, Bool.not_eq_true', List.isEmpty_eq_false_iff] at hz
      obtain ⟨vs, hl, hc, hg⟩ := exTys_elim h
      obtain ⟨hn, hk⟩ := guardL_elim hg
      exact ⟨_, run_loadVar_cells ha hz.1 ad vs hl (fun j v hj => hi.cell (hc j v hj) (by rw [addr_block]; exact hn)), hk⟩
    · exact h.elim
  · rename_i ha
    split at h
    · rename_i d hd
      obtain ⟨v, hc, hg⟩ := exTy_elim h
      obtain ⟨hn, hk⟩ := guardL_elim hg
      exact ⟨v, run_loadVar_one (by rw [hd]; rfl) (by simpa using ha) ad v (hi.cell hc hn), hk⟩
    · exact h.elim

theorem semV_run {ρ : Operand → Value} {sem : Sem Value} (h : semV ρ o = some sem) {v : Value} {w2 : World} (hr : sem.run P w = .ok v w2) : (execOp ρ o).run P w = .ok (.value v) w2 := by
  unfold semV at h
  split at h
  case h_1 b args ats hop =>
    simp only [execOp, hop, resolve, Sem.run_bind, Sem.run_pure, Result.andThen_ok, invoke, builtin]
    cases b <;> simp only [Option.some.injEq, reduceCtorEq] at h <;> (subst h; simp only [Sem.run_bind, hr, Result.andThen_ok, Sem.run_pure])
  all_goals first
    | (cases h; done)
    | (rename_i hop; injection h with h; subst h; simp only [execOp, hop]; rw [Sem.run_bind, hr]; rfl)
theorem semU_run {ρ : Operand → Value} {sem : Sem Unit} (h : semU ρ o = some sem) {w2 : World} (hr : sem.run P w = .ok () w2) : (execOp ρ o).run P w = .ok .skip w2 := by
  unfold semU at h
  split at h
  all_goals first
    | (cases h; done)
    | (rename_i hop; injection h with h; subst h; simp only [execOp, hop]; rw [Sem.run_bind, hr]; rfl)

theorem ρ_congr (hi : Inv bs B s a w) (hg : GH g a.tmps) (hall : o.op.operands.toList.all (fun x => (val g s.fr x).isSome) = true) (hs : ∀ cs b, o.op ≠ .select cs b) : execOp (ρ_ g s) o = execOp a.eval o :=
  execOp_congr o hs fun x hx => ρ_agree hi.toW hg (mem_all hall x hx)

theorem rawOp_sound {H : Hints} (h : rawOp P B H g o s next) (hi : Inv bs B s a w) (hg : GH g a.tmps) (hs : ∀ cs b, o.op ≠ .select cs b) : o.wp P a w (Res bs o.dst B next) Q := by
  unfold rawOp at h
  split at h
  · rename_i hall
    have hc := ρ_congr hi hg hall hs
    split at h
    · rename_i sem hsem
      obtain ⟨L', hk, hL⟩ := sync_sound h hi
      obtain ⟨v, w2, hr, hk⟩ := exShape_elim hk
      exact ev_sound hi hL (by rw [← hc]; exact semV_run hsem hr) hk
    · split at h
      · rename_i sem hsem
        obtain ⟨L', hk, hL⟩ := sync_sound h hi
        obtain ⟨w2, hr, hk⟩ := hk
        exact evu_sound hi hL (by rw [← hc]; exact semU_run hsem hr) hk
      · exact h.elim
  · exact h.elim

theorem callOp_sound (h : callOp P B g o s next) (hi : Inv bs B s a w) (hg : GH g a.tmps) (hs : ∀ cs b, o.op ≠ .select cs b) : o.wp P a w (Res bs o.dst B next) Q := by
  unfold callOp at h
  split at h
  · rename_i hall
    have hc := ρ_congr hi hg hall hs
    split at h
    · rename_i f args hp
      obtain ⟨L', hk, hL⟩ := sync_sound h hi
      refine wp_enter (by rw [← hc]; exact pev_run hp w) (hk.h.mono fun e w2 he => ?_)
      obtain ⟨v, rfl, hk⟩ := exVal_elim he
      obtain ⟨hk, hn⟩ := keptL_elim hk
      exact ⟨v, rfl, bs, _, hn, (hi.event hL.1 hL.2 hk).putB o.dst (.v v) v rfl, fun _ _ => rfl⟩
    · exact h.elim
  · exact h.elim

theorem nev_kept {α : Type} {x : Sem α} : ∀ {r : α} {w w' : World}, nev P x w = some (r, w') → w.heap.size ≤ w'.heap.size ∧ ∀ b, b < w.heap.size → w'.heap[b]? = w.heap[b]? := by
  induction x with
  | pure b => intro r w w' h; simp only [nev, Option.some.injEq, Prod.mk.injEq] at h; obtain ⟨_, rfl⟩ := h; exact ⟨Nat.le_refl _, fun _ _ => rfl⟩
  | program k ih => intro r w w' h; exact ih P h
  | mark m k ih => intro r w w' h; exact ih h
  | new o k ih =>
    intro r w w' h
    obtain ⟨h1, h2⟩ := ih w.heap.size h
    rw [World.size_alloc] at h1
    exact ⟨by omega, fun b hb => (h2 b (by rw [World.size_alloc]; omega)).trans (heap_alloc_old w _ hb)⟩
  | _ => intro r w w' h; simp [nev] at h
theorem newOp_sound (h : newOp P B g o s next) (hi : Inv bs B s a w) (hg : GH g a.tmps) (hs : ∀ cs b, o.op ≠ .select cs b) : o.wp P a w (Res bs o.dst B next) Q := by
  unfold newOp at h
  split at h
  · rename_i hall
    have hc := ρ_congr hi hg hall hs
    obtain ⟨L', hk, hL⟩ := sync_sound h hi
    split at hk
    · rename_i v w2 hn
      obtain ⟨h1, h2⟩ := nev_kept hn
      have hkept : Kept (Lof L') w w2 := ⟨h1, fun b hb => h2 b (hL.2 b hb).1⟩
      exact wp_value (by rw [← hc]; exact nev_run hn) ⟨bs, _, hk, (hi.event hL.1 hL.2 hkept).putB o.dst (.v v) v rfl, fun _ _ => rfl⟩
    · exact hk.elim
  · exact h.elim
end
end Go.X
