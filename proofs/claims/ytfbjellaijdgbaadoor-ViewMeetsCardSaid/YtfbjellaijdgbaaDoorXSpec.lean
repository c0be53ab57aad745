import Derived.Test.YtfbjellaijdgbaaDoorXEq
set_option linter.unusedVariables false
set_option linter.unusedSimpArgs false
/- The engine: the value of an operation that only reckons. -/
namespace Go.X
open Go
/-- a conversion that makes or reads memory -/
def isCv (P : Program) (g : Option (Nat × Bool)) (s : St) (o : Oper) : Bool :=
  match o.op with
  | .convert _ b x => match val g s.fr x with
    | some (.slice ..) => true
    | some (.string _) => match P.underlying b with
      | some .string => false
      | _ => true
    | _ => false
  | _ => false
/-- THE VALUE OF AN OPERATION THAT ONLY RECKONS (over symbolic slots), g: the guard that holds. 'sym': the operation is not to be reckoned here. -/
def spec (P : Program) (sym : Bool) (g : Option (Nat × Bool)) (s : St) (o : Oper) : Option B0 :=
  match o.op with
  | .move x | .assign x => ov g s.fr x
  | .pick c a b => match val g s.fr c with
    | some (.bool t) => match c with
      | .tmp cs => match a, b with
        | .const (.bool true), y => match val (some (cs, false)) s.fr y with
          | some (.bool u) => some (.v (.bool (t || u)))
          | some _ => if t then some (.v (.bool true)) else none
          | none => none
        | y, .const (.bool false) => match val (some (cs, true)) s.fr y with
          | some (.bool u) => some (.v (.bool (t && u)))
          | some _ => if t then none else some (.v (.bool false))
          | none => none
        | _, _ => none
      | _ => none
    | _ => none
  | .fieldAddr t x f => match fieldOff P t f with
    | none => none
    | some d => match ov g s.fr x with
      | some (.loc i off) => some (.loc i (off + d))
      | _ => none
  | .nilCheck x => match ov g s.fr x with
    | some (.loc i off) => some (.loc i off)
    | _ => none
  | .load t x => match ov g s.fr x with
    | some (.loc i off) => (locLoad P s.loc t i off).map .v
    | _ => none
  | .indexAddr t x ix => match arrOf P t with
    | none => none
    | some (n, z) => match ov g s.fr x, val g s.fr ix with
      | some (.loc i off), some (.int _ m) => match lit? sym m n with
        | some j => some (.loc i (off + j * z))
        | none => none
      | _, _ => none
  | .binOp op t x y _ => if sym then none else match val g s.fr x, val g s.fr y with
    | some a, some b => match op, a, b with
      | .eql, .slice .., .slice .. | .eql, .pointer .., .pointer .. | .eql, .map .., .map .. => (eqV P t a b).map fun r => .v (.bool r)
      | .neq, .slice .., .slice .. | .neq, .pointer .., .pointer .. | .neq, .map .., .map .. => (eqV P t a b).map fun r => .v (.bool (!r))
      | .eql, .agg _, .agg _ => if P.eqGuardType P.depth t then none else (eqX P 10000 t a b).map fun r => .v (.bool r)
      | .neq, .agg _, .agg _ => if P.eqGuardType P.depth t then none else (eqX P 10000 t a b).map fun r => .v (.bool (!r))
      | _, .agg _, _ => none
      | .add, .string _, _ => none
      | _, _, _ => match pev P (execOp (fun z => (val g s.fr z).getD undef) o) with
        | some (.value v) => some (.v v)
        | _ => none
    | _, _ => none
  | .unOp .. | .convert .. | .extract .. | .field .. | .build .. | .makeFunc .. | .index .. | .makeInterface .. =>
    if sym || isCv P g s o then none else if o.op.operands.toList.all (fun x => (val g s.fr x).isSome) then
      match pev P (execOp (fun z => (val g s.fr z).getD undef) o) with
      | some (.value v) => some (.v v)
      | _ => none
    else none
  | .call { callee := .builtin b, .. } => if sym then none else match b with
    | .len | .cap | .min | .max => if o.op.operands.toList.all (fun x => (val g s.fr x).isSome) then
        match pev P (execOp (fun z => (val g s.fr z).getD undef) o) with
        | some (.value v) => some (.v v)
        | _ => none
      else none
    | _ => none
  | _ => none

section
variable {P : Program} {bs : Nat → Nat} {s : St} {a : Act} {w : World} {g : Option (Nat × Bool)} {o : Oper}
/-- THE SOUNDNESS OF 'spec' -/
theorem spec_sound {sym : Bool} (h : InvW bs s a w) (hg : GH g a.tmps) {v : B0} (hv : spec P sym g s o = some v) : (execOp a.eval o).run P w = .ok (.value (v.real bs)) w := by
  unfold spec at hv
  split at hv
  case h_1 x hop => simp only [execOp, hop, Sem.run_pure]; rw [h.ov_ hg hv]
  case h_2 x hop => simp only [execOp, hop, Sem.run_pure]; rw [h.ov_ hg hv]
  case h_3 c x y hop =>
    split at hv <;> try cases hv
    rename_i t hc
    split at hv <;> try cases hv
    rename_i cs
    have hce := h.val_ hg hc
    have hcs : a.tmps.getD cs undef = .bool t := hce
    simp only [execOp, hop, Sem.run_bind, hce, asBool, Sem.run_pure, Result.andThen_ok]
    split at hv <;> try cases hv
    · split at hv
      · rename_i u hu
        cases hv
        cases t
        · have := h.val_ (g := some (cs, false)) hcs hu
          simp [this, B0.real]
        · simp [B0.real, Act.eval]
      · split at hv
        · rename_i ht
          cases hv
          subst ht
          simp [B0.real, Act.eval]
        · cases hv
      · cases hv
    · split at hv
      · rename_i u hu
        cases hv
        cases t
        · simp [B0.real, Act.eval]
        · have := h.val_ (g := some (cs, true)) hcs hu
          simp [this, B0.real]
      · split at hv
        · cases hv
        · rename_i ht
          cases hv
          have : t = false := by simpa using ht
          subst this
          simp [B0.real, Act.eval]
      · cases hv
  case h_4 t x f hop =>
    split at hv <;> try cases hv
    rename_i d hd
    simp only [execOp, hop]
    split at hv <;> try cases hv
    rename_i i off hx
    rw [h.ov_ hg hx]
    simp only [B0.real, Sem.run_bind, run_fieldAt hd, Result.andThen_ok, Sem.run_pure, Addr.add_mid]
  case h_5 x hop =>
    simp only [execOp, hop]
    split at hv <;> try cases hv
    rename_i i off hx
    rw [h.ov_ hg hx]
    simp only [B0.real, Sem.run_pure]
  case h_6 t x hop =>
    simp only [execOp, hop]
    split at hv <;> try cases hv
    rename_i i off hx
    rw [h.ov_ hg hx]
    cases hl : locLoad P s.loc t i off with
    | none => rw [hl] at hv; cases hv
    | some u =>
      rw [hl] at hv
      injection hv with hv
      subst hv
      simp only [B0.real, Sem.run_bind, run_locLoad hl (fun bk hb => h.blk i bk hb), Result.andThen_ok, Sem.run_pure]
  case h_7 t x ix hop =>
    split at hv <;> try cases hv
    rename_i n z hA
    simp only [execOp, hop]
    split at hv <;> try cases hv
    rename_i i off k m hx hi
    split at hv <;> try cases hv
    rename_i j hj
    unfold lit? at hj
    split at hj <;> try cases hj
    split at hj <;> try cases hj
    rename_i hm
    rw [h.ov_ hg hx, h.val_ hg hi]
    simp only [B0.real, Sem.run_bind, run_indexAt_arr hA hm, Result.andThen_ok, Sem.run_pure, Addr.add_mid]
  case h_8 op t x y yt hop =>
    split at hv <;> try cases hv
    split at hv <;> try cases hv
    rename_i va vb hx hy
    have ex := h.val_ hg hx
    have ey := h.val_ hg hy
    have gen : ∀ {n : Next}, pev P (execOp (fun z => (val g s.fr z).getD undef) o) = some n → (execOp a.eval o).run P w = .ok n w := fun hp =>
      run_pev h hg (fun z hz => by
        rw [hop] at hz
        simp only [Op.operands, List.mem_toArray, List.mem_cons, List.not_mem_nil, or_false] at hz
        rcases hz with rfl | rfl
        · rw [hx]; rfl
        · rw [hy]; rfl) (fun cs b e => by rw [hop] at e; cases e) hp
    have heq : ∀ {r : Bool}, (op = .eql ∨ op = .neq) → (∃ q n c, va = .slice q n c) ∨ (∃ q, va = .pointer q) ∨ (∃ q, va = .map q) → eqV P t va vb = some r →
        (execOp a.eval o).run P w = .ok (.value (.bool (if op = .eql then r else !r))) w := by
      intro r ho hk hr
      have hge : eqGuard op t x y va vb = pure () := by
        rcases hk with ⟨q, n, c, rfl⟩ | ⟨q, rfl⟩ | ⟨q, rfl⟩
        · exact eqGuard_at_slice ..
        · exact eqGuard_at_pointer ..
        · exact eqGuard_at_map ..
      have hq := run_equalV hr w
      simp only [execOp, hop, ex, ey, hge, Sem.run_bind, Sem.run_pure, Result.andThen_ok]
      rcases ho with rfl | rfl
      · have hb : binOp .eql t va vb = (do pure (.bool (← Op.equal t va vb))) := by
          rcases hk with ⟨q, n, c, rfl⟩ | ⟨q, rfl⟩ | ⟨q, rfl⟩ <;> cases vb <;> first | rfl | (simp [eqV] at hr)
        rw [hb]
        simp [hq]
      · have hb : binOp .neq t va vb = (do pure (.bool (!(← Op.equal t va vb)))) := by
          rcases hk with ⟨q, n, c, rfl⟩ | ⟨q, rfl⟩ | ⟨q, rfl⟩ <;> cases vb <;> first | rfl | (simp [eqV] at hr)
        rw [hb]
        simp [hq]
    split at hv
    all_goals first
      | (split at hv
         · cases hv
         · rename_i hq
           cases hr : eqX P 10000 t _ _ with
           | none => rw [hr] at hv; cases hv
           | some r =>
             rw [hr] at hv
             injection hv with hv
             subst hv
             simp only [execOp, hop, ex, ey]
             first
               | (rw [Sem.run_bind, run_binop_agg (.inl rfl) (by simpa using hq) hr]; rfl)
               | (rw [Sem.run_bind, run_binop_agg (.inr rfl) (by simpa using hq) hr]; rfl))
      | (cases hr : eqV P t _ _ with
         | none => rw [hr] at hv; cases hv
         | some r =>
           rw [hr] at hv
           injection hv with hv
           subst hv
           first
             | exact heq (.inl rfl) (.inl ⟨_, _, _, rfl⟩) hr
             | exact heq (.inl rfl) (.inr (.inl ⟨_, rfl⟩)) hr
             | exact heq (.inl rfl) (.inr (.inr ⟨_, rfl⟩)) hr
             | exact heq (.inr rfl) (.inl ⟨_, _, _, rfl⟩) hr
             | exact heq (.inr rfl) (.inr (.inl ⟨_, rfl⟩)) hr
             | exact heq (.inr rfl) (.inr (.inr ⟨_, rfl⟩)) hr)
      | (cases hv; done)
      | (split at hv
         · rename_i v' hp
           injection hv with hv
           subst hv
           exact gen hp
         · cases hv)
  case h_17 c b ats as hop =>
    split at hv <;> try cases hv
    split at hv
    all_goals first
      | (cases hv; done)
      | (split at hv
         · rename_i hall
           split at hv
           · rename_i v' hp
             injection hv with hv
             subst hv
             exact run_pev h hg (mem_all hall) (fun cs b e => by rw [hop] at e; cases e) hp
           · cases hv
         · cases hv)
  all_goals first
    | (cases hv; done)
    | (rename_i hop
       split at hv <;> try cases hv
       split at hv <;> try cases hv
       rename_i hall
       split at hv <;> try cases hv
       rename_i v' hp
       exact run_pev h hg (mem_all hall) (fun cs b e => by rw [hop] at e; cases e) hp)
end
end Go.X
