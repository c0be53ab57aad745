import Derived.Test.YtfbjellaijdgbaaDoorXOps
import Derived.ChangeKeysEq
set_option linter.unusedVariables false
set_option linter.unusedSimpArgs false
/- The engine: '==' of structs and arrays. -/
namespace Go.X
open Go
def sub (xs : Array Value) (off n : Nat) : Array Value := ((xs.toList.drop off).take n).toArray
theorem sub_eq (xs : Array Value) (off n : Nat) : sub xs off n = xs.extract off (off + n) := by
  apply Array.ext'
  simp [sub, Array.toList_extract, List.extract_eq_take_drop]
/-- a part of a value's cells -/
def partV (P : Program) (t : TypeId) (cs : Array Value) (off : Nat) : Option Value :=
  if aggT P t then (szOf P t).map fun n => .agg (sub cs off n)
  else match P.underlying t with
    | some _ => cs.toList[off]?
    | none => none
def eqFs (P : Program) (E : TypeId → Value → Value → Option Bool) (xs ys : Array Value) : List Field → Option Bool
  | [] => some true
  | f :: fs => if f.name = "_" then eqFs P E xs ys fs else
    match partV P f.type xs f.offset, partV P f.type ys f.offset with
    | some a, some b => match E f.type a b with
      | some r => match fs with
        | [] => some r
        | _ => (eqFs P E xs ys fs).map fun q => r && q
      | none => none
    | _, _ => none
def eqIs (P : Program) (E : Value → Value → Option Bool) (e : TypeId) (z : Nat) (xs ys : Array Value) : List Nat → Option Bool
  | [] => some true
  | i :: is =>
    match partV P e xs (i * z), partV P e ys (i * z) with
    | some a, some b => match E a b with
      | some r => match is with
        | [] => some r
        | _ => (eqIs P E e z xs ys is).map fun q => r && q
      | none => none
    | _, _ => none
def eqX (P : Program) : Nat → TypeId → Value → Value → Option Bool
  | 0, _, _, _ => none
  | d + 1, t, x, y => match P.underlying t with
    | some (.int _) => match x, y with
      | .int k a, .int k' b => if k = k' then some (a == b) else none
      | _, _ => none
    | some .bool => match x, y with
      | .bool a, .bool b => some (a == b)
      | _, _ => none
    | some .string => match x, y with
      | .string a, .string b => some (a == b)
      | _, _ => none
    | some (.struct fs) => match x, y with
      | .agg xs, .agg ys => if P.stoodInHeld t then none else eqFs P (eqX P d) xs ys fs.toList
      | _, _ => none
    | some (.array n e) => match x, y with
      | .agg xs, .agg ys => (szOf P e).bind fun z => eqIs P (eqX P d e) e z xs ys (List.range n)
      | _, _ => none
    | _ => none

section
variable {P : Program} {w : World}
theorem run_part {t : TypeId} {cs : Array Value} {off : Nat} {v : Value} (h : partV P t cs off = some v) : (part t cs off).run P w = .ok v w := by
  unfold partV at h
  split at h
  · rename_i ha
    unfold part
    rw [Sem.run_bind, run_isAgg t (aggT_some ha), Result.andThen_ok, ha]
    cases hi : P.info? t with
    | none => simp [szOf, hi] at h
    | some i =>
      simp only [szOf, hi, Option.map_some, Option.some.injEq] at h
      subst h
      simp [sizeOf, typeInfo, hi, sub_eq]
  · rename_i ha
    split at h
    · rename_i d hd
      unfold part
      rw [Sem.run_bind, run_isAgg t (by rw [hd]; rfl), Result.andThen_ok, show aggT P t = false by simpa using ha]
      have : cs[off]? = some v := by simpa using h
      simp [this]
    · cases h

theorem eqX_run (d : Nat) : ∀ (t : TypeId) (x y : Value) (r : Bool), eqX P d t x y = some r → (Op.equalIn d t x y).run P w = .ok r w := by
  induction d with
  | zero => intro t x y r h; simp [eqX] at h
  | succ d ih =>
    intro t x y r h
    unfold eqX at h
    split at h
    · rename_i k hu
      split at h <;> try cases h
      rename_i k1 a k2 b
      split at h <;> try cases h
      rename_i hk
      subst hk
      exact run_equalIn_int w d t _ _ a b hu
    · rename_i hu
      split at h <;> try cases h
      exact run_equalIn_bool' w d t _ _ hu
    · rename_i hu
      split at h <;> try cases h
      rename_i a b
      rw [run_equalIn_string w d t _ _ hu, beq_toListBytes]
    · rename_i fs hu
      split at h <;> try cases h
      rename_i xs ys
      split at h <;> try cases h
      rename_i hs
      have hfo : P.fieldsOf t = fs := by simp [Program.fieldsOf, hu]
      rw [run_equalIn_struct w d t xs ys (by rw [hu, hfo]) (by simpa using hs), hfo]
      generalize fs.toList = l at h
      clear hfo hu hs
      induction l generalizing r with
      | nil => simp [eqFs] at h; subst h; simp [Op.eqFields]
      | cons f l ihl =>
        unfold eqFs at h
        split at h
        · rename_i hn
          simp only [Op.eqFields, hn, ne_eq, not_true_eq_false, if_false]
          exact ihl r h
        · rename_i hn
          split at h <;> try cases h
          rename_i va vb ha hb
          split at h <;> try cases h
          rename_i r0 hr0
          have h1 := ih f.type va vb r0 hr0
          simp only [Op.eqFields, ne_eq, hn, not_false_eq_true, if_true, Sem.run_bind, run_part ha, run_part hb, Result.andThen_ok, h1]
          split at h
          · injection h with h
            subst h
            cases r0 <;> simp [Op.eqFields]
          · cases hq : eqFs P (eqX P d) xs ys l with
            | none => rw [hq] at h; cases h
            | some q =>
              rw [hq] at h
              injection h with h
              subst h
              have h2 := ihl q hq
              cases r0
              · simp
              · simpa using h2
    · rename_i n e hu
      split at h <;> try cases h
      rename_i xs ys
      cases hi : P.info? e with
      | none => simp [szOf, hi] at h
      | some i =>
        simp only [szOf, hi, Option.map_some, Option.bind_some] at h
        rw [run_equalIn_array (w := w) d xs ys hu hi]
        have hc : P.cellsOf e = i.size := by simp [Program.cellsOf, hi]
        rw [hc]
        generalize List.range n = l at h
        clear hu
        induction l generalizing r with
        | nil => simp [eqIs] at h; subst h; simp [Op.eqItems]
        | cons j l ihl =>
          unfold eqIs at h
          split at h <;> try cases h
          rename_i va vb ha hb
          split at h <;> try cases h
          rename_i r0 hr0
          have h1 := ih e va vb r0 hr0
          simp only [Op.eqItems, Sem.run_bind, run_part ha, run_part hb, Result.andThen_ok, h1]
          split at h
          · injection h with h
            subst h
            cases r0 <;> simp [Op.eqItems]
          · cases hq : eqIs P (eqX P d e) e i.size xs ys l with
            | none => rw [hq] at h; cases h
            | some q =>
              rw [hq] at h
              injection h with h
              subst h
              have h2 := ihl q hq
              cases r0
              · simp
              · simpa using h2
    · cases h
theorem run_binop_agg {op : BinOp} (ho : op = .eql ∨ op = .neq) {t : TypeId} {x y : Operand} {xs ys : Array Value} {r : Bool} (hg : P.eqGuardType P.depth t = false)
    (h : eqX P 10000 t (.agg xs) (.agg ys) = some r) : (do eqGuard op t x y (.agg xs) (.agg ys); binOp op t (.agg xs) (.agg ys) : Sem Value).run P w = .ok (.bool (if op = .eql then r else !r)) w := by
  have h1 := eqX_run (w := w) 10000 t _ _ r h
  rw [Sem.run_bind, run_eqGuard_agg w op t x y xs ys hg, Result.andThen_ok]
  rcases ho with rfl | rfl
  · rw [run_eql_struct w t xs ys, h1]; simp
  · rw [run_neq_struct w t xs ys, h1]; simp
end
end Go.X
