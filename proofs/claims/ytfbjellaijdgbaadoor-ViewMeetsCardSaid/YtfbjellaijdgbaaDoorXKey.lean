import Derived.Test.YtfbjellaijdgbaaDoorXPm
import Derived.WideKeyRuns
set_option linter.unusedVariables false
set_option linter.unusedSimpArgs false
/- The engine, part 24: keys of maps that are structs. -/
namespace Go.X
open Go RowKit
def ckIs (P : Program) (C : Value → Bool) (e : TypeId) (z : Nat) (cs : Array Value) : List Nat → Bool
  | [] => true
  | i :: is => match partV P e cs (i * z) with
    | some v => C v && ckIs P C e z cs is
    | none => false
def ckFs (P : Program) (C : TypeId → Value → Bool) (cs : Array Value) : List Field → Bool
  | [] => true
  | f :: fs => (if f.name = "_" then true else match partV P f.type cs f.offset with
    | some v => C f.type v
    | none => false) && ckFs P C cs fs
/-- may be a key: no interface in it -/
def ckX (P : Program) : Nat → TypeId → Value → Bool
  | 0, _, _ => false
  | d + 1, t, v => match P.underlying t with
    | some (.int _) => true
    | some .bool => true
    | some .string => true
    | some (.array n e) => match v with
      | .agg cs => match P.info? e with
        | some i => ckIs P (ckX P d e) e i.size cs (List.range n)
        | none => false
      | _ => false
    | some (.struct fs) => match v with
      | .agg cs => ckFs P (ckX P d) cs fs.toList
      | _ => false
    | _ => false
section
variable {P : Program} {w : World}
theorem ckX_run (em : Bool) : ∀ (d : Nat) (t : TypeId) (v : Value), ckX P d t v = true → (Instr.checkKey em d t v).run P w = .ok () w
  | 0, _, _, h => by simp [ckX] at h
  | d + 1, t, v, h => by
    unfold ckX at h
    rw [Instr.checkKey]
    split at h
    · rename_i k hu; simp only [Sem.run_bind, run_underlying hu, Result.andThen_ok]; rfl
    · rename_i hu; simp only [Sem.run_bind, run_underlying hu, Result.andThen_ok]; rfl
    · rename_i hu; simp only [Sem.run_bind, run_underlying hu, Result.andThen_ok]; rfl
    · rename_i n e hu
      split at h
      · rename_i cs
        split at h
        · rename_i i hi
          have hc : P.cellsOf e = i.size := by simp [Program.cellsOf, hi]
          simp only [Sem.run_bind, run_underlying hu, Result.andThen_ok]
          simp only [Std.Legacy.Range.forIn_eq_forIn_range', Std.Legacy.Range.size, Nat.sub_zero, Nat.add_one_sub_one, Nat.div_one]
          rw [List.range_eq_range'] at h
          generalize List.range' 0 n = is at h
          induction is with
          | nil => simp
          | cons j is ih =>
            simp only [ckIs] at h
            split at h
            · rename_i va hva
              simp only [Bool.and_eq_true] at h
              simp only [List.forIn_cons, Sem.run_bind, run_sizeOf w hi, hc, Result.andThen_ok, run_part hva, ckX_run em d e va h.1, Sem.run_pure]
              exact ih h.2
            · cases h
        · cases h
      · cases h
    · rename_i fs hu
      split at h
      · rename_i cs
        simp only [Sem.run_bind, run_underlying hu, Result.andThen_ok]
        rw [← Array.forIn_toList]
        generalize fs.toList = l at h
        induction l with
        | nil => simp
        | cons f l ih =>
          simp only [ckFs, Bool.and_eq_true] at h
          obtain ⟨h1, h2⟩ := h
          by_cases hn : f.name = "_"
          · simp only [List.forIn_cons, Sem.run_bind, hn, ne_eq, not_true_eq_false, if_false, Result.andThen_ok, Sem.run_pure]
            exact ih h2
          · rw [if_neg hn] at h1
            split at h1
            · rename_i va hva
              simp only [List.forIn_cons, Sem.run_bind, hn, ne_eq, not_false_eq_true, if_true, Result.andThen_ok, run_part hva, ckX_run em d f.type va h1, Sem.run_pure]
              exact ih h2
            · cases h1
      · cases h
    · cases h
/-- keys that are structs -/
theorem keyAgg {kt : TypeId} {fs : Array Field} {α : Type} [DecidableEq α] {enc : α → Value} (hu : P.underlying kt = some (.struct fs)) (hagg : ∀ x, ∃ cs, enc x = .agg cs)
    (hck : ∀ x, ckX P 10000 kt (enc x) = true) (heq : ∀ x y, ∃ b, eqX P 10000 kt (enc x) (enc y) = some b ∧ (b = true ↔ x = y)) (hsame : ∀ x, Instr.sameBits 10000 (enc x) (enc x) = true) : KeyT P kt enc := by
  refine ⟨fun e x w => ckX_run e 10000 kt (enc x) (hck x), fun x es ks hk w => ?_, hsame⟩
  have key : ∀ (es : List MapEntry) (ks : List α), es.map (·.key) = ks.map enc → ∀ i, (Instr.findAsking kt (enc x) es i).run P w = .ok (scan x ks es i) w := by
    intro es
    induction es with
    | nil => intro ks hk i; cases ks <;> simp [Instr.findAsking, scan]
    | cons e es ih =>
      intro ks hk i
      cases ks with
      | nil => simp at hk
      | cons k ks =>
        simp only [List.map_cons, List.cons.injEq] at hk
        obtain ⟨b, hb, hbi⟩ := heq x k
        have h1 : (Op.equal kt (enc x) e.key).run P w = .ok b w := by rw [hk.1]; exact eqX_run 10000 kt _ _ b hb
        simp only [Instr.findAsking, Sem.run_bind, h1, Result.andThen_ok, scan]
        by_cases hx : x = k
        · rw [if_pos hx, if_pos (hbi.2 hx)]; rfl
        · rw [if_neg hx, if_neg (fun h => hx (hbi.1 h))]
          exact ih ks hk.2 _
  cases es with
  | nil => cases ks <;> simp [Instr.findKey, run_underlying hu, Instr.findNow, scan]
  | cons e es =>
    obtain ⟨cs, hcs⟩ := hagg x
    have hn : Instr.findNow (.struct fs) (enc x) (e :: es) 0 = none := by
      rw [hcs]; simp [Instr.findNow, Instr.sameNow]
    simp only [Instr.findKey, Sem.run_bind, run_underlying hu, Result.andThen_ok, hn]
    exact key (e :: es) ks hk 0
end
end Go.X
