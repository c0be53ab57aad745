import Derived.Test.YtfbjellaijdgbaaDoorXGen4
import Derived.Deep.LoopGhost
set_option linter.unusedVariables false
set_option linter.unusedSimpArgs false
/- The engine, part 7: guards, plain regions, code. -/
namespace Go.X
open Go

/-! the state, written out: so that no step is reckoned twice -/
def fNat (n : Nat) (k : Nat → Prop) : Prop := match n with
  | 0 => k 0
  | m + 1 => k (m + 1)
def fB0 (x : B0) (k : B0 → Prop) : Prop := match x with
  | .v x => k (.v x)
  | .loc i off => fNat i fun i => fNat off fun off => k (.loc i off)
def fSV (x : SV) (k : SV → Prop) : Prop := match x with
  | .b x => fB0 x fun x => k (.b x)
  | .gd s true x => fB0 x fun x => k (.gd s true x)
  | .gd s false x => fB0 x fun x => k (.gd s false x)
  | .junk => k .junk
def fList {α : Type} (f : α → (α → Prop) → Prop) : List α → (List α → Prop) → Prop
  | [], k => k []
  | x :: xs, k => f x fun y => fList f xs fun ys => k (y :: ys)
def fLoc (p : Nat × Blk) (k : Nat × Blk → Prop) : Prop := match p with
  | (i, ⟨cells, ty⟩) => fNat i fun i => fList (fun v k => k v) cells fun cells => fNat ty fun ty => k (i, ⟨cells, ty⟩)
def norm (s : St) (k : St → Prop) : Prop := match s with
  | ⟨fr, loc, u, L, d⟩ => fList fSV fr fun fr => fList fLoc loc fun loc => match L, d with
    | none, true => k ⟨fr, loc, u, none, true⟩
    | none, false => k ⟨fr, loc, u, none, false⟩
    | some L, true => k ⟨fr, loc, u, some L, true⟩
    | some L, false => k ⟨fr, loc, u, some L, false⟩
theorem fNat_eq (n : Nat) (k : Nat → Prop) : fNat n k = k n := by cases n <;> rfl
theorem fB0_eq (x : B0) (k : B0 → Prop) : fB0 x k = k x := by cases x <;> simp [fB0, fNat_eq]
theorem fSV_eq (x : SV) (k : SV → Prop) : fSV x k = k x := by
  cases x with
  | b x => simp [fSV, fB0_eq]
  | gd s w x => cases w <;> simp [fSV, fB0_eq]
  | junk => rfl
theorem fList_eq {α : Type} {f : α → (α → Prop) → Prop} (hf : ∀ x k, f x k = k x) (l : List α) : ∀ k, fList f l k = k l := by
  induction l with
  | nil => intro k; rfl
  | cons x l ih => intro k; simp [fList, hf, ih]
theorem fLoc_eq (p : Nat × Blk) (k : Nat × Blk → Prop) : fLoc p k = k p := by
  obtain ⟨i, cells, ty⟩ := p
  simp [fLoc, fNat_eq, fList_eq]
theorem norm_eq (s : St) (k : St → Prop) : norm s k = k s := by
  obtain ⟨fr, loc, u, L, d⟩ := s
  simp only [norm, fList_eq fSV_eq, fList_eq fLoc_eq]
  cases L <;> cases d <;> rfl
/-- a guard's slot is known -/
def resolve (gs : Nat) (b : Bool) : SV → SV
  | .gd g w x => if g = gs then (if w = b then .b x else .b (.v undef)) else .gd g w x
  | x => x
def refine (s : St) (gs : Nat) (b : Bool) : St := { s with fr := (s.fr.map (resolve gs b)).set gs (.b (.v (.bool b))) }
/-- is a guard met? -/
def guardIf (s : St) : Nat → Nat → Bool → (St → Prop) → (St → Prop) → Prop
  | 0, _, _, _, _ => False
  | n + 1, gs, want, k1, k0 => match sget s.fr gs with
    | .b (.v (.bool t)) => if (t == want) = true then norm (refine s gs want) k1 else norm (refine s gs (!want)) k0
    | .gd g2 w2 (.v (.bool t)) => guardIf s n g2 w2 (fun s => if (t == want) = true then norm (refine s gs want) k1 else norm (refine s gs (!want)) k0) (fun s => norm { s with fr := s.fr.set gs (.b (.v undef)) } k0)
    | .b (.v (.tuple _)) => norm s k0
    | .gd _ _ (.v (.tuple _)) => norm s k0
    | _ => False
def denOp (P : Program) (B : Nat) (H : Hints) (ops : Array Oper) (o : Oper) (s : St) (next : St → Prop) : Prop :=
  match o.guard with
  | none => match spec P (has H.sym o.dst) none s o with
    | some x => next (setb s o x)
    | none => gen P B H none o s next
  | some (j, want) => match (ops[j]?).bind (·.dst) with
    | none => False
    | some gs => match spec P (has H.sym o.dst) (some (gs, want)) s o with
      | some x => if o.dst = some gs then False else next { s with fr := sput s.fr o.dst (.gd gs want x) }
      | none => guardIf s 4 gs want (fun s => gen P B H (some (gs, want)) o s next) (fun s => next { s with fr := sput s.fr o.dst (.b (.v undef)) })
def denOps (P : Program) (B : Nat) (H : Hints) (ops : Array Oper) : List Oper → St → (St → Prop) → Prop
  | [], s, k => k s
  | o :: r, s, k => denOp P B H ops o s fun s' => norm s' fun s' => denOps P B H ops r s' k

end Go.X
