import Derived.Test.YtfbjellaijdgbaaDoorXSound2
set_option linter.unusedVariables false
set_option linter.unusedSimpArgs false
/- The engine, part 10: a whole function. -/
namespace Go.X
open Go

def denRes (P : Program) (s : St) : List ResultVar → (List Value → Prop) → Prop
  | [], k => k []
  | .tmp t :: r, k => match sget s.fr t with
    | .b (.v v) => denRes P s r fun vs => k (v :: vs)
    | _ => False
  | .cell p t :: r, k => match sget s.fr p with
    | .b (.loc i off) => match locLoad P s.loc t i off with
      | some v => denRes P s r fun vs => k (v :: vs)
      | none => False
    | .b (.v (.pointer q)) => onSome q fun ad => ldVC P s t ad fun v => denRes P s r fun vs => k (v :: vs)
    | _ => False
def resV : List Value → Value
  | [v] => v
  | vs => .tuple vs.toArray
/-- at the end the locals are gone -/
def syncE (s : St) (k : World → Prop) : Prop :=
  match s.dirty with
  | true => ∀ w, Hid (Lof s.L) s.u w → k w
  | false => k s.u
def endQ (P : Program) (rs : List ResultVar) (R : Ending → World → Prop) (e : Exit) (s : St) : Prop :=
  match e with
  | .normal | .ret => denRes P s rs fun vs => syncE s fun w => R (.returned (resV vs)) w
  | _ => False
def initSt (n : Nat) (args : List Value) (w : World) : St :=
  { fr := args.map (fun v => .b (.v v)) ++ List.replicate (n - args.length) (.b (.v undef)), loc := [], u := w, L := none, dirty := false }
/-- THE VERIFICATION CONDITION OF A CALL -/
def denFn (P : Program) (H : Hints) (fn : Func) (args : List Value) (w : World) (R : Ending → World → Prop) : Prop :=
  match fn.body with
  | some c => den P w.heap.size H c (initSt fn.ntmps args w) (endQ P fn.results.toList R)
  | none => False

section
variable {P : Program} {B : Nat} {s : St} {a : Act} {w : World} {bs : Nat → Nat}
theorem syncE_sound {k : World → Prop} (h : syncE s k) (hi : Inv bs B s a w) : k w := by
  unfold syncE at h
  cases hd : s.dirty with
  | true => rw [hd] at h; exact h w hi.hid
  | false => rw [hd] at h; rw [hi.cleanw hd]; exact h
theorem denRes_sound (hi : Inv bs B s a w) : ∀ (l : List ResultVar) {k : List Value → Prop}, denRes P s l k →
    ∃ vs, (l.mapM (m := Sem) fun | .tmp t => pure (a.tmps.getD t undef) | .cell p t => do loadVar t (← asAddr (a.tmps.getD p undef))).run P w = .ok vs w ∧ k vs := by
  intro l
  induction l with
  | nil => intro k h; exact ⟨[], by simp, h⟩
  | cons r l ih =>
    intro k h
    cases r with
    | tmp t =>
      simp only [denRes] at h
      have hr := hi.sget_ t
      split at h
      · rename_i v hv
        rw [hv] at hr
        obtain ⟨vs, h1, h2⟩ := ih h
        refine ⟨v :: vs, ?_, h2⟩
        have he : a.tmps.getD t undef = v := hr
        rw [List.mapM_cons]; simp only [Sem.run_bind, he, Sem.run_pure, Result.andThen_ok, h1]
      · exact h.elim
    | cell p t =>
      simp only [denRes] at h
      have hr := hi.sget_ p
      have main : ∀ (ad : Addr) (v : Value) (_ : a.tmps.getD p undef = .pointer (some ad)) (_ : (Instr.loadAt t (.pointer (some ad))).run P w = .ok v w) (_ : denRes P s l fun vs => k (v :: vs)),
          ∃ vs, ((ResultVar.cell p t :: l).mapM (m := Sem) fun | .tmp t => pure (a.tmps.getD t undef) | .cell p t => do loadVar t (← asAddr (a.tmps.getD p undef))).run P w = .ok vs w ∧ k vs := by
        intro ad v he hl hd
        obtain ⟨vs, h1, h2⟩ := ih hd
        refine ⟨v :: vs, ?_, h2⟩
        have ha : (asAddr (.pointer (some ad)) : Sem Addr).run P w = .ok ad w := rfl
        have hl' : (loadVar t ad).run P w = .ok v w := by simpa [Instr.loadAt, Instr.sureAddr] using hl
        rw [List.mapM_cons]; simp only [Sem.run_bind, he, ha, hl', Sem.run_pure, Result.andThen_ok, h1]
      split at h
      · rename_i i off hv
        rw [hv] at hr
        split at h
        · rename_i v hl
          exact main _ v hr (run_locLoad hl (fun bk hb => (hi.blk i bk hb).1)) h
        · exact h.elim
      · rename_i q hv
        rw [hv] at hr
        obtain ⟨ad, rfl, hk⟩ := onSome_elim h
        obtain ⟨v, h1, h2⟩ := ld_sound hi hk
        exact main ad v hr h1 h2
      · exact h.elim
theorem init_inv (n : Nat) (args : List Value) (w : World) : Inv (fun _ => 0) w.heap.size (initSt n args w) { tmps := args.toArray ++ Array.replicate (n - args.toArray.size) undef, defers := [] } w := by
  refine ⟨rfl, by simp [initSt], ?_, fun i b hb => (by cases hb), fun i j b c hb => (by cases hb), Hid.refl _ _, fun _ => rfl, fun _ i b hb => (by cases hb), Nat.le_refl _, fun b hb => (by cases hb)⟩
  intro j x hx
  simp only [initSt] at hx
  rw [Array.getD_eq_getD_getElem?]
  by_cases hj : j < args.length
  · rw [List.getElem?_append_left (by simpa using hj), List.getElem?_map] at hx
    rw [Array.getElem?_append_left (by simpa using hj)]
    rw [List.getElem?_eq_getElem hj] at hx
    simp at hx
    subst hx
    simp [RV, B0.real, hj]
  · rw [List.getElem?_append_right (by simpa using Nat.le_of_not_lt hj)] at hx
    rw [Array.getElem?_append_right (by simpa using Nat.le_of_not_lt hj)]
    simp only [List.length_map, List.getElem?_replicate] at hx
    split at hx
    · rename_i h
      injection hx with hx
      subst hx
      simp [RV, B0.real, h]
    · cases hx
theorem results_run {fn : Func} {vs : List Value} (h : (fn.results.toList.mapM (m := Sem) fun | .tmp t => pure (a.tmps.getD t undef) | .cell p t => do loadVar t (← asAddr (a.tmps.getD p undef))).run P w = .ok vs w) :
    (results fn a.tmps).run P w = .ok (resV vs) w := by
  unfold results
  rw [Sem.run_bind, Array.mapM_eq_mapM_toList, Sem.run_map]
  refine (congrArg (fun r => Result.andThen (Result.andThen r fun b w' => Result.ok b.toArray w') _) h).trans ?_
  simp only [Result.andThen_ok, Sem.run_pure]
  congr 1
  match vs with
  | [] => rfl
  | [v] => rfl
  | v :: u :: r => simp [resV]
/-- THE ENGINE'S THEOREM -/
theorem calls_of_den {P : Program} {f : FuncId} {fn : Func} {args : List Value} {w : World} {R : Ending → World → Prop} (H : Hints) (hf : P.funcs[f]? = some fn) (h : denFn P H fn args w R) : Calls P f args.toArray w R := by
  unfold denFn at h
  split at h
  · rename_i c hc
    refine calls_of_wp hf hc (wp_mono (den_sound c h (init_inv _ _ _)) ?_)
    rintro e a' w' ⟨⟨bs, s, hq, hi, _⟩, _⟩
    have key : (denRes P s fn.results.toList fun vs => syncE s fun w => R (.returned (resV vs)) w) → a'.defers = [] ∧ ∃ v, (results fn a'.tmps).run P w' = .ok v w' ∧ R (.returned v) w' := by
      intro hd
      obtain ⟨vs, h1, h2⟩ := denRes_sound hi _ hd
      have h3 := syncE_sound h2 hi
      exact ⟨hi.defers, _, results_run h1, h3⟩
    cases e with
    | normal => exact key hq
    | ret => exact key hq
    | _ => exact hq.elim
  · exact h.elim
/-- .. with the condition spelled out -/
theorem calls_of {P : Program} {f : FuncId} {fn : Func} {args : List Value} {w : World} {R : Ending → World → Prop} {V : Prop} (H : Hints) (hf : P.funcs[f]? = some fn) (he : V = denFn P H fn args w R) (h : V) : Calls P f args.toArray w R :=
  calls_of_den H hf (he ▸ h)
end
end Go.X
