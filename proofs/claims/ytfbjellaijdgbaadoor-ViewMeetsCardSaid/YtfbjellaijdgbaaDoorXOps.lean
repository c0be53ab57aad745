import Derived.Test.YtfbjellaijdgbaaDoorXCore
import Derived.Deep.MidRow
import Derived.Laws.StructEq
set_option linter.unusedVariables false
set_option linter.unusedSimpArgs false
/- The engine, part 2: what one operation does to a symbolic state. -/
namespace Go.X
open Go

/-! ### evaluation of what neither reads nor writes, and of what only makes new blocks -/
def pev {α : Type} (P : Program) : Sem α → Option α
  | .pure a => some a
  | .program k => pev P (k P)
  | .mark _ k => pev P k
  | _ => none
theorem pev_run {α : Type} {P : Program} {s : Sem α} {a : α} (h : pev P s = some a) (w : World) : s.run P w = .ok a w := by
  induction s with
  | pure b => simp only [pev, Option.some.injEq] at h; subst h; rfl
  | program k ih => exact ih P h
  | mark m k ih => exact ih h
  | _ => simp [pev] at h
def nev {α : Type} (P : Program) : Sem α → World → Option (α × World)
  | .pure a, w => some (a, w)
  | .program k, w => nev P (k P) w
  | .mark _ k, w => nev P k w
  | .new o k, w => nev P (k w.heap.size) (w.alloc o)
  | _, _ => none
theorem nev_run {α : Type} {P : Program} {s : Sem α} : ∀ {a : α} {w w' : World}, nev P s w = some (a, w') → s.run P w = .ok a w' := by
  induction s with
  | pure b => intro a w w' h; simp only [nev, Option.some.injEq, Prod.mk.injEq] at h; obtain ⟨rfl, rfl⟩ := h; rfl
  | program k ih => intro a w w' h; exact ih P h
  | mark m k ih => intro a w w' h; exact ih h
  | new o k ih => intro a w w' h; exact ih w.heap.size h
  | _ => intro a w w' h; simp [nev] at h

/-! ### small computations -/
def fieldOff (P : Program) (t : TypeId) (f : Nat) : Option Nat :=
  match P.underlying t with
  | some (.struct fs) => match fs[f]? with
    | some fd => match P.info? fd.type with
      | some i => if i.size = 0 then none else some fd.offset
      | none => none
    | none => none
  | _ => none
def szOf (P : Program) (t : TypeId) : Option Nat := (P.info? t).map (·.size)
def arrOf (P : Program) (t : TypeId) : Option (Nat × Nat) :=
  match P.underlying t with
  | some (.array n e) => (szOf P e).map fun z => (n, z)
  | _ => none
def slcOf (P : Program) (t : TypeId) : Option Nat :=
  match P.underlying t with
  | some (.slice e) => szOf P e
  | _ => none
/-- a local's cells as a value of type t -/
def locLoad (P : Program) (l : List (Nat × Blk)) (t : TypeId) (i off : Nat) : Option Value :=
  match look l i with
  | none => none
  | some b =>
    if aggT P t then match szOf P t with
      | some n => if off + n ≤ b.cells.length then some (.agg ((b.cells.drop off).take n).toArray) else none
      | none => none
    else match P.underlying t with
      | some _ => b.cells[off]?
      | none => none
def oneC : Value → Bool
  | .agg _ | .tuple _ => false
  | _ => true
theorem oneC_eq (v : Value) : oneC v = v.oneCell' := by cases v <;> rfl
/-- cells that are held against each other -/
def eqC : Value → Value → Option Bool
  | .int k a, .int k' b => if k = k' then some (a == b) else none
  | .bool a, .bool b => some (a == b)
  | .string a, .string b => some (a == b)
  | _, _ => none

def splice (l : List Value) (o : Nat) (vs : List Value) : List Value := l.take o ++ vs ++ l.drop (o + vs.length)

/-- a literal index? -/
def lit? (sym : Bool) (n : Int) (len : Nat) : Option Nat := if sym then none else if 0 ≤ n ∧ n < len then some n.toNat else none

/-- '==' against nil; none: by the model's own run -/
def eqV (P : Program) (t : TypeId) : Value → Value → Option Bool
  | .slice q _ _, .slice none _ _ => match P.underlying t with | some (.slice _) => some q.isNone | _ => none
  | .pointer q, .pointer none => match P.underlying t with | some (.pointer _) => some q.isNone | _ => none
  | .map q, .map none => match P.underlying t with | some (.map _ _) => some q.isNone | _ => none
  | _, _ => none

section
variable {P : Program} {bs : Nat → Nat} {B : Nat} {s : St} {a : Act} {w : World} {g : Option (Nat × Bool)} {o : Oper}

theorem ρ_agree (h : InvW bs s a w) (hg : GH g a.tmps) {x : Operand} (hx : (val g s.fr x).isSome = true) : (fun z => (val g s.fr z).getD undef) x = a.eval x := by
  cases hv : val g s.fr x with
  | none => rw [hv] at hx; cases hx
  | some v => simp only [hv, Option.getD_some]; exact (h.val_ hg hv).symm

theorem run_pev (h : InvW bs s a w) (hg : GH g a.tmps) (hall : ∀ x ∈ o.op.operands, (val g s.fr x).isSome = true) (hs : ∀ cs b, o.op ≠ .select cs b) {n : Next}
    (hp : pev P (execOp (fun z => (val g s.fr z).getD undef) o) = some n) : (execOp a.eval o).run P w = .ok n w := by
  rw [← execOp_congr o hs (fun x hx => ρ_agree h hg (hall x hx))]
  exact pev_run hp w

theorem mem_all {o : Oper} {f : Operand → Bool} (h : o.op.operands.toList.all f = true) : ∀ x ∈ o.op.operands, f x = true := fun x hx => (List.all_eq_true.1 h) x (by simpa using hx)

theorem run_fieldAt {t : TypeId} {f d : Nat} (hf : fieldOff P t f = some d) (ad : Addr) (w : World) : (Instr.fieldAt t (.pointer (some ad)) f).run P w = .ok (.pointer (some (ad.add d))) w := by
  unfold fieldOff at hf
  split at hf
  · rename_i fs hu
    split at hf
    · rename_i fd hfd
      split at hf
      · rename_i i hi
        split at hf
        · cases hf
        · rename_i hz
          injection hf with hf
          subst hf
          simp [Instr.fieldAt, run_underlying hu, hfd, Instr.sureAddr, fieldPlace, sizeOf, typeInfo, hi, hz]
      · cases hf
    · cases hf
  · cases hf

theorem cellsAt_of_block {w : World} {b : Nat} {cs : List Value} {t : TypeId} {fr : Nat × Nat} (h : w.heap[b]? = some (.cells cs.toArray t fr)) (j : Nat) : w.cell? ⟨b, j, none⟩ = cs[j]? := by
  simp [World.cell?, h]

theorem run_isAgg (t : TypeId) (h : (P.underlying t).isSome = true) (w : World) : (isAgg t).run P w = .ok (aggT P t) w := by
  unfold isAgg aggT
  cases hu : P.underlying t with
  | none => rw [hu] at h; cases h
  | some d => rw [Sem.run_bind, run_underlying hu]; cases d <;> rfl

theorem aggT_some {t : TypeId} (h : aggT P t = true) : (P.underlying t).isSome = true := by
  unfold aggT at h; cases hu : P.underlying t <;> simp_all

theorem run_loadVar_cells {t : TypeId} {n : Nat} (ha : aggT P t = true) (hz : szOf P t = some n) (ad : Addr) (vs : List Value) (hn : vs.length = n) (hc : Cells w ad vs) :
    (loadVar t ad).run P w = .ok (.agg vs.toArray) w := by
  have hl := run_loadCells_list (P := P) w ad vs hc
  cases hq : P.info? t with
  | none => simp [szOf, hq] at hz
  | some i =>
    have : i.size = n := by simpa [szOf, hq] using hz
    unfold loadVar
    rw [Sem.run_bind, run_isAgg t (aggT_some ha), Result.andThen_ok, ha]
    simp [sizeOf, typeInfo, hq, this, ← hn, hl]
theorem run_loadVar_one {t : TypeId} (hu : (P.underlying t).isSome = true) (ha : aggT P t = false) (ad : Addr) (v : Value) (hc : w.cell? ad = some v) : (loadVar t ad).run P w = .ok v w := by
  unfold loadVar
  rw [Sem.run_bind, run_isAgg t hu, Result.andThen_ok, ha]
  simp [run_load, hc]

theorem run_locLoad {l : List (Nat × Blk)} {t : TypeId} {i off b : Nat} {v : Value} (hl : locLoad P l t i off = some v) (hb : ∀ bk, look l i = some bk → w.heap[b]? = some (.cells bk.cells.toArray bk.ty (0, 0))) :
    (Instr.loadAt t (.pointer (some ⟨b, off, none⟩))).run P w = .ok v w := by
  unfold locLoad at hl
  cases hk : look l i with
  | none => rw [hk] at hl; cases hl
  | some bk =>
    rw [hk] at hl
    have hh := hb bk hk
    simp only at hl
    simp only [Instr.loadAt, Instr.sureAddr, Sem.run_bind, Sem.run_pure, Result.andThen_ok]
    split at hl
    · rename_i ha
      split at hl
      · rename_i n hn
        split at hl
        · rename_i hlen
          injection hl with hl
          subst hl
          refine run_loadVar_cells ha hn _ _ (by rw [List.length_take, List.length_drop]; omega) ?_
          intro j v hj
          rw [Addr.add_mid, cellsAt_of_block hh]
          rw [List.getElem?_take] at hj
          split at hj
          · rwa [List.getElem?_drop] at hj
          · cases hj
        · cases hl
      · cases hl
    · rename_i ha
      split at hl
      · rename_i d hd
        exact run_loadVar_one (by rw [hd]; rfl) (by simpa using ha) _ _ (by rw [cellsAt_of_block hh]; exact hl)
      · cases hl

theorem run_indexAt_arr {t : TypeId} {n z : Nat} (hA : arrOf P t = some (n, z)) {k : IntKind} {m : Int} (hm : 0 ≤ m ∧ m < n) (ad : Addr) (w : World) :
    (Instr.indexAt t (.pointer (some ad)) (.int k m)).run P w = .ok (.pointer (some (ad.add (m.toNat * z)))) w := by
  unfold arrOf at hA
  split at hA
  · rename_i n' e hu
    unfold szOf at hA
    cases hi : P.info? e with
    | none => simp [hi] at hA
    | some i =>
      simp [hi] at hA
      obtain ⟨rfl, rfl⟩ := hA
      simp [Instr.indexAt, asIntOf, run_underlying hu, Instr.sureAddr, hm, sizeOf, typeInfo, hi]
  · cases hA

theorem run_eqIn {t : TypeId} {x y : Value} {r : Bool} (hr : eqV P t x y = some r) (d : Nat) (w : World) : (Op.equalIn (d + 1) t x y).run P w = .ok r w := by
  unfold eqV at hr
  split at hr
  · split at hr
    · rename_i q _ _ _ _ _ d hd
      injection hr with hr
      subst hr
      simp only [Op.equalIn, Sem.run_bind, run_underlying hd, Result.andThen_ok]
      cases q <;> simp
    · cases hr
  · split at hr
    · rename_i q _ d hd
      injection hr with hr
      subst hr
      simp only [Op.equalIn, Sem.run_bind, run_underlying hd, Result.andThen_ok]
      cases q <;> simp
    · cases hr
  · split at hr
    · rename_i q _ _ d hd
      injection hr with hr
      subst hr
      simp only [Op.equalIn, Sem.run_bind, run_underlying hd, Result.andThen_ok]
      cases q <;> simp
    · cases hr
  · cases hr
theorem run_equalV {t : TypeId} {x y : Value} {r : Bool} (hr : eqV P t x y = some r) (w : World) : (Op.equal t x y).run P w = .ok r w := run_eqIn hr 9999 w

end
end Go.X
