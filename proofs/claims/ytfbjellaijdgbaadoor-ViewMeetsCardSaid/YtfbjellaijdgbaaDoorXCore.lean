import Derived.WalkKit
import Derived.KernelRfl
import Derived.Orders
import Derived.LoopN
set_option linter.unusedVariables false
set_option linter.unusedSimpArgs false
/- The engine: a symbolic predicate-transformer semantics of the model's code, sound against 'Code.wp'. Part 1: shapes, states, relations. -/
namespace Go.X

/-! ### shapes of one-cell values -/
inductive Ty where
  | int (k : IntKind) | bool | str | ptr | slice | map | any

def tyOf : TypeDesc → Ty
  | .bool => .bool
  | .int k => .int k
  | .string => .str
  | .pointer _ => .ptr
  | .slice _ => .slice
  | .map _ _ => .map
  | _ => .any

/-- the shapes of a type's cells, flattened -/
def cellTys (P : Program) : Nat → TypeId → List Ty
  | 0, _ => []
  | n + 1, t => match P.underlying t with
    | some (.struct fs) => fs.toList.flatMap fun f => cellTys P n f.type
    | some (.array k e) => (List.replicate k (cellTys P n e)).flatten
    | some d => [tyOf d]
    | none => []

def aggT (P : Program) (t : TypeId) : Bool := match P.underlying t with | some (.struct _) => true | some (.array _ _) => true | _ => false

def exTy : Ty → (Value → Prop) → Prop
  | .int k, p => ∃ n : Int, p (.int k n)
  | .bool, p => ∃ b : Bool, p (.bool b)
  | .str, p => ∃ s : ByteArray, p (.string s)
  | .ptr, p => ∃ q : Option Addr, p (.pointer q)
  | .slice, p => ∃ (q : Option Addr) (len cap : Nat), p (.slice q len cap)
  | .map, p => ∃ m : Option Nat, p (.map m)
  | .any, p => ∃ v : Value, p v
def exTys : List Ty → (List Value → Prop) → Prop
  | [], p => p []
  | t :: ts, p => exTy t fun v => exTys ts fun vs => p (v :: vs)
def allTy : Ty → (Value → Prop) → Prop
  | .int k, p => ∀ n : Int, p (.int k n)
  | .bool, p => ∀ b : Bool, p (.bool b)
  | .str, p => ∀ s : ByteArray, p (.string s)
  | .ptr, p => ∀ q : Option Addr, p (.pointer q)
  | .slice, p => ∀ (q : Option Addr) (len cap : Nat), p (.slice q len cap)
  | .map, p => ∀ m : Option Nat, p (.map m)
  | .any, p => ∀ v : Value, p v
def allTys : List Ty → (List Value → Prop) → Prop
  | [], p => p []
  | t :: ts, p => allTy t fun v => allTys ts fun vs => p (v :: vs)
/-- functions of values of these shapes -/
def Arr : Ty → Type → Type
  | .int _, β => Int → β
  | .bool, β => Bool → β
  | .str, β => ByteArray → β
  | .ptr, β => Option Addr → β
  | .slice, β => Option Addr → Nat → Nat → β
  | .map, β => Option Nat → β
  | .any, β => Value → β
def Arrs : List Ty → Type → Type
  | [], β => β
  | t :: ts, β => Arr t (Arrs ts β)
def appTy {β : Type} : (t : Ty) → Arr t β → Value → Option β
  | .int k, f, .int k' n => if k = k' then some (f n) else none
  | .bool, f, .bool b => some (f b)
  | .str, f, .string s => some (f s)
  | .ptr, f, .pointer q => some (f q)
  | .slice, f, .slice q n c => some (f q n c)
  | .map, f, .map m => some (f m)
  | .any, f, v => some (f v)
  | _, _, _ => none
def appTys {β : Type} : (ts : List Ty) → Arrs ts β → List Value → Option β
  | [], b, [] => some b
  | t :: ts, f, v :: vs => (appTy t f v).bind fun g => appTys ts g vs
  | _, _, _ => none

theorem exTy_elim {t : Ty} {p : Value → Prop} (h : exTy t p) : ∃ v, p v := by
  cases t <;> simp only [exTy] at h
  case slice => obtain ⟨a, b, c, h⟩ := h; exact ⟨_, h⟩
  all_goals (obtain ⟨a, h⟩ := h; exact ⟨_, h⟩)
theorem exTys_elim {ts : List Ty} : ∀ {p : List Value → Prop}, exTys ts p → ∃ vs, vs.length = ts.length ∧ p vs := by
  induction ts with
  | nil => intro p h; exact ⟨[], rfl, h⟩
  | cons t ts ih =>
    intro p h
    obtain ⟨v, hv⟩ := exTy_elim h
    obtain ⟨vs, hl, hp⟩ := ih hv
    exact ⟨v :: vs, by simp [hl], hp⟩

def onSome {α : Type} (p : Option α) (k : α → Prop) : Prop := match p with | some a => k a | none => False
theorem onSome_elim {α : Type} {p : Option α} {k : α → Prop} (h : onSome p k) : ∃ a, p = some a ∧ k a := by
  cases p with
  | none => exact h.elim
  | some a => exact ⟨a, rfl, h⟩

/-! ### memory -/
/-- from address a on the cells vs -/
def Cells (w : World) (a : Addr) (vs : List Value) : Prop := ∀ j v, vs[j]? = some v → w.cell? (a.add j) = some v

/-- w is u but for new blocks and the blocks of L -/
structure Hid (L : List Nat) (u w : World) : Prop where
  os : w.os = u.os
  tape : w.tape = u.tape
  output : w.output = u.output
  size : u.heap.size ≤ w.heap.size
  drawn : u.drawn ≤ w.drawn
  block : ∀ b, b < u.heap.size → b ∉ L → w.heap[b]? = u.heap[b]?
/-- the blocks of L stand, none has gone -/
structure Kept (L : List Nat) (w w' : World) : Prop where
  size : w.heap.size ≤ w'.heap.size
  block : ∀ b, b ∈ L → w'.heap[b]? = w.heap[b]?
/-- what is known of a new list of local blocks -/
def NewL (B : Nat) (L : List Nat) (u w : World) (L' : List Nat) : Prop := ∀ b, b ∈ L' → b < w.heap.size ∧ B ≤ b ∧ (b ∈ L ∨ u.heap.size ≤ b)

theorem Hid.refl (L : List Nat) (u : World) : Hid L u u := ⟨rfl, rfl, rfl, Nat.le_refl _, Nat.le_refl _, fun _ _ _ => rfl⟩
theorem Hid.below {u w : World} (h : Hid [] u w) : RowKit.Below u.heap.size u w := ⟨h.os, h.tape, h.output, h.size, fun b hb => h.block b hb (by simp)⟩

/-! ### symbolic values, frames, states -/
inductive B0 where
  | v (x : Value)
  | loc (i off : Nat)
inductive SV where
  | b (x : B0)
  | gd (s : Nat) (want : Bool) (x : B0)
  | junk
structure Blk where
  cells : List Value
  ty : TypeId
def Lof : Option (List Nat) → List Nat
  | none => []
  | some l => l
structure St where
  fr : List SV
  loc : List (Nat × Blk)
  u : World
  L : Option (List Nat)
  dirty : Bool

def look : List (Nat × Blk) → Nat → Option Blk
  | [], _ => none
  | (j, b) :: r, i => if j = i then some b else look r i
def upd : List (Nat × Blk) → Nat → Blk → List (Nat × Blk)
  | [], i, b => [(i, b)]
  | (j, c) :: r, i, b => if j = i then (i, b) :: r else (j, c) :: upd r i b
theorem look_upd (l : List (Nat × Blk)) (i j : Nat) (b : Blk) : look (upd l i b) j = if i = j then some b else look l j := by
  induction l with
  | nil => simp [upd, look]
  | cons x r ih =>
    obtain ⟨k, c⟩ := x
    simp only [upd]
    by_cases hk : k = i
    · subst hk; simp only [if_true, look]; by_cases hj : k = j <;> simp [hj]
    · rw [if_neg hk]; simp only [look, ih]
      by_cases hj : k = j
      · subst hj; rw [if_pos rfl, if_neg (by omega), if_pos rfl]
      · rw [if_neg hj, if_neg hj]

def B0.real (bs : Nat → Nat) : B0 → Value
  | .v x => x
  | .loc i off => .pointer (some ⟨bs i, off, none⟩)
/-- a slot's value fits its symbolic value -/
def RV (bs : Nat → Nat) (tmps : Array Value) : SV → Value → Prop
  | .b x, y => y = x.real bs
  | .gd s want x, y => (tmps.getD s undef = .bool want → y = x.real bs) ∧ (tmps.getD s undef ≠ .bool want → y = undef)
  | .junk, _ => True

def sget (fr : List SV) (i : Nat) : SV := fr.getD i (.b (.v undef))
def clean (d : Nat) : SV → SV
  | .gd s want x => if s = d then .junk else .gd s want x
  | x => x
def sput (fr : List SV) (dst : Option Nat) (x : SV) : List SV :=
  match dst with
  | some d => (fr.map (clean d)).set d x
  | none => fr
def B0.kill (i : Nat) : B0 → Bool
  | .loc j _ => j == i
  | _ => false
/-- no slot points into local i any more -/
def killL (i : Nat) : SV → SV
  | .b x => if x.kill i then .junk else .b x
  | .gd s want x => if x.kill i then .junk else .gd s want x
  | .junk => .junk

structure Inv (bs : Nat → Nat) (B : Nat) (s : St) (a : Act) (w : World) : Prop where
  defers : a.defers = []
  size : a.tmps.size = s.fr.length
  slots : ∀ (j : Nat) (x : SV), s.fr[j]? = some x → RV bs a.tmps x (a.tmps.getD j undef)
  blk : ∀ i b, look s.loc i = some b → w.heap[bs i]? = some (.cells b.cells.toArray b.ty (0, 0)) ∧ B ≤ bs i ∧ (bs i ∈ (Lof s.L) ∨ s.u.heap.size ≤ bs i)
  inj : ∀ i j b c, look s.loc i = some b → look s.loc j = some c → i ≠ j → bs i ≠ bs j
  hid : Hid (Lof s.L) s.u w
  cleanw : s.dirty = false → w = s.u
  cleanl : s.dirty = false → ∀ i b, look s.loc i = some b → bs i ∈ (Lof s.L)
  base : B ≤ s.u.heap.size
  llt : ∀ b, b ∈ Lof s.L → b < s.u.heap.size ∧ B ≤ b

theorem getD_set (a : Array Value) (d j : Nat) (v : Value) : (a.setIfInBounds d v).getD j undef = if d = j ∧ d < a.size then v else a.getD j undef := by
  simp only [Array.getD_eq_getD_getElem?, Array.getElem?_setIfInBounds]
  by_cases h : d = j
  · subst h
    by_cases hd : d < a.size
    · simp [hd]
    · simp [hd]
  · simp [h]

theorem Inv.sget_ {bs B s a w} (h : Inv bs B s a w) (j : Nat) : RV bs a.tmps (sget s.fr j) (a.tmps.getD j undef) := by
  unfold sget
  rw [List.getD_eq_getElem?_getD]
  cases hj : s.fr[j]? with
  | some x => exact h.slots j x hj
  | none =>
    have hl : s.fr.length ≤ j := List.getElem?_eq_none_iff.1 hj
    simp only [Option.getD_none, RV, B0.real]
    have := h.size
    rw [Array.getD_eq_getD_getElem?, Array.getElem?_eq_none (by omega)]
    rfl

theorem RV_put {bs : Nat → Nat} {tmps : Array Value} {d : Nat} {v : Value} {x : SV} {y : Value} (h : RV bs tmps x y) : RV bs (tmps.setIfInBounds d v) (clean d x) y := by
  cases x with
  | b x => exact h
  | junk => trivial
  | gd s want x =>
    simp only [clean]
    by_cases hs : s = d
    · rw [if_pos hs]; trivial
    · rw [if_neg hs]
      simp only [RV] at h ⊢
      rw [getD_set, if_neg (by omega)]
      exact h

/-- a slot is written; the world, the locals stand -/
theorem Inv.put {bs B s a w} (h : Inv bs B s a w) (dst : Option Nat) (x : SV) (v : Value)
    (hx : ∀ d, dst = some d → RV bs (a.tmps.setIfInBounds d v) x v) : Inv bs B { s with fr := sput s.fr dst x } (a.put dst v) w := by
  cases dst with
  | none => exact h
  | some d =>
    refine ⟨h.defers, ?_, ?_, h.blk, h.inj, h.hid, h.cleanw, h.cleanl, h.base, h.llt⟩
    · simp [Act.put, sput, h.size]
    · intro j y hy
      simp only [sput, Act.put] at hy ⊢
      rw [List.getElem?_set] at hy
      rw [getD_set]
      have hsz := h.size
      by_cases hd : d = j
      · subst hd
        rw [if_pos rfl] at hy
        by_cases hl : d < (s.fr.map (clean d)).length
        · rw [if_pos hl] at hy
          injection hy with hy
          subst hy
          rw [if_pos ⟨rfl, by simp at hl; omega⟩]
          exact hx d rfl
        · rw [if_neg hl] at hy; cases hy
      · rw [if_neg hd] at hy
        rw [if_neg (by omega)]
        rw [List.getElem?_map] at hy
        cases hz : s.fr[j]? with
        | none => rw [hz] at hy; simp at hy
        | some z =>
          rw [hz] at hy
          simp at hy
          subst hy
          exact RV_put (h.slots j z hz)

theorem Inv.putB {bs B s a w} (h : Inv bs B s a w) (dst : Option Nat) (x : B0) (v : Value) (hx : v = x.real bs) : Inv bs B { s with fr := sput s.fr dst (.b x) } (a.put dst v) w :=
  h.put dst _ v fun _ _ => hx
theorem Inv.putJ {bs B s a w} (h : Inv bs B s a w) (dst : Option Nat) (v : Value) : Inv bs B { s with fr := sput s.fr dst .junk } (a.put dst v) w :=
  h.put dst _ v fun _ _ => trivial

/-! ### operands -/
def osv (fr : List SV) : Operand → SV
  | .tmp t => sget fr t
  | .const v => .b (.v v)
  | .global g => .b (.v (.pointer (some ⟨g, 0, none⟩)))
  | .func f => .b (.v (.func (.func f) #[] #[]))
/-- an operand's value where the guard g is known to hold -/
def ov (g : Option (Nat × Bool)) (fr : List SV) (x : Operand) : Option B0 :=
  match osv fr x with
  | .b y => some y
  | .gd s want y => match g with
    | some (t, b) => if s = t ∧ want = b then some y else none
    | none => none
  | .junk => none
def val (g : Option (Nat × Bool)) (fr : List SV) (x : Operand) : Option Value :=
  match ov g fr x with
  | some (.v y) => some y
  | _ => none
def GH (g : Option (Nat × Bool)) (tmps : Array Value) : Prop := match g with | none => True | some (t, b) => tmps.getD t undef = .bool b

/-- what an operation that only reckons asks of a state -/
structure InvW (bs : Nat → Nat) (s : St) (a : Act) (w : World) : Prop where
  slot : ∀ (j : Nat), RV bs a.tmps (sget s.fr j) (a.tmps.getD j undef)
  blk : ∀ i b, look s.loc i = some b → w.heap[bs i]? = some (.cells b.cells.toArray b.ty (0, 0))
theorem Inv.toW {bs B s a w} (h : Inv bs B s a w) : InvW bs s a w := ⟨h.sget_, fun i b hb => (h.blk i b hb).1⟩
theorem InvW.ov_ {bs s a w} (h : InvW bs s a w) {g : Option (Nat × Bool)} (hg : GH g a.tmps) {x : Operand} {y : B0} (hy : ov g s.fr x = some y) : a.eval x = y.real bs := by
  unfold ov at hy
  have hr : RV bs a.tmps (osv s.fr x) (a.eval x) := by
    cases x with
    | tmp t => exact h.slot t
    | const v => rfl
    | global g => rfl
    | func f => rfl
  cases ho : osv s.fr x with
  | b z => rw [ho] at hy hr; simp at hy; subst hy; exact hr
  | junk => rw [ho] at hy; simp at hy
  | gd t want z =>
    rw [ho] at hy hr
    cases g with
    | none => simp at hy
    | some p =>
      obtain ⟨t', b⟩ := p
      simp only at hy
      split at hy
      · rename_i hc
        obtain ⟨rfl, rfl⟩ := hc
        injection hy with hy
        subst hy
        exact hr.1 hg
      · cases hy
theorem InvW.val_ {bs s a w} (h : InvW bs s a w) {g : Option (Nat × Bool)} (hg : GH g a.tmps) {x : Operand} {y : Value} (hy : val g s.fr x = some y) : a.eval x = y := by
  unfold val at hy
  cases ho : ov g s.fr x with
  | none => rw [ho] at hy; simp at hy
  | some z =>
    rw [ho] at hy
    cases z with
    | v q => simp at hy; subst hy; exact h.ov_ hg ho
    | loc i off => simp at hy
theorem Inv.ov_ {bs B s a w} (h : Inv bs B s a w) {g : Option (Nat × Bool)} (hg : GH g a.tmps) {x : Operand} {y : B0} (hy : ov g s.fr x = some y) : a.eval x = y.real bs := h.toW.ov_ hg hy
theorem Inv.val_ {bs B s a w} (h : Inv bs B s a w) {g : Option (Nat × Bool)} (hg : GH g a.tmps) {x : Operand} {y : Value} (hy : val g s.fr x = some y) : a.eval x = y := h.toW.val_ hg hy
end Go.X
