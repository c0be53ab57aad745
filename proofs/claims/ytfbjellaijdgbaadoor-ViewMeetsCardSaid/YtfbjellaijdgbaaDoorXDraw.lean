import Derived.Test.YtfbjellaijdgbaaDoorXCode1
import Derived.OrdersHeld
set_option linter.unusedVariables false
set_option linter.unusedSimpArgs false
/- The engine, part 7b: regions whose order the tape draws. -/
namespace Go.X
open Go

/-- facts on memory that all events of the region leave alone -/
abbrev Facts := List (Addr × List Value)
def FactsW (F : Facts) (u : World) (L : List Nat) : Prop := ∀ ad vs, (ad, vs) ∈ F → Cells u ad vs ∧ ad.block < u.heap.size ∧ ad.block ∉ L
def FactsIn (F : Facts) (s : St) : Prop := FactsW F s.u (Lof s.L)
def ldF (P : Program) (F : Facts) (t : TypeId) (ad : Addr) (k : Value → Prop) : Prop :=
  if aggT P t then
    if szOf P t == some (cellTys P 60 t).length then exTys (cellTys P 60 t) fun vs => (ad, vs) ∈ F ∧ k (.agg vs.toArray) else False
  else match P.underlying t with
    | some d => exTy (tyOf d) fun v => (ad, [v]) ∈ F ∧ k v
    | none => False
def ldM (P : Program) (m : Option Facts) (s : St) (t : TypeId) (ad : Addr) (k : Value → Prop) : Prop :=
  match m with
  | none => ldVC P s t ad k
  | some F => ldF P F t ad k
/-- the locals that the region leaves alone -/
def restr (K : List Nat) (s : St) : St := { s with loc := s.loc.filter fun p => K.contains p.1 }
def isLd (o : Oper) : Bool := match o.op with
  | .load .. => true
  | _ => false
def kOf (K : List Nat) (o : Oper) : List Nat := if isLd o then K else []
/-- an operation that may change what was there -/
def turns (o : Oper) : Bool := match o.op with
  | .store .. | .mapUpdate .. | .insert .. | .entryStore .. => true
  | .call { callee := .builtin b, .. } => match b with
    | .append | .copy | .delete | .clear => true
    | _ => false
  | .call _ => true
  | _ => false
/-- do all loads of the region come ahead of this one? -/
def lateB (ops : Array Oper) (j : Nat) : Bool := match ops[j]? with
  | none => false
  | some o => turns o && (List.range ops.size).all fun k => match ops[k]? with
    | some ok => !isLd ok || o.after.any (fun e => Region.binds .any e && e.on == k)
    | none => true
def fIf (late : Bool) (p q : Prop) : Prop := match late with
  | true => q
  | false => p ∧ q
theorem fIf_elim {late : Bool} {p q : Prop} (h : fIf late p q) : (late = false → p) ∧ q := by
  cases late with
  | true => exact ⟨(fun e => by cases e), h⟩
  | false => exact ⟨fun _ => h.1, h.2⟩
/-- is an operation's guard known not to be met? -/
def skipB (g : Option (Nat × Bool)) (s : St) (o : Oper) : Bool := match g with
  | some (gs, want) => match sget s.fr gs with
    | .b (.v (.bool t)) => !turns o && t != want
    | .b (.v (.tuple _)) => !turns o
    | .gd _ _ (.v (.tuple _)) => !turns o
    | _ => false
  | none => false
def isF (P : Program) (sk : Bool) (sym : Bool) (K : List Nat) (g : Option (Nat × Bool)) (s : St) (o : Oper) : Bool :=
  match o.op with
  | .load .. => true
  | _ => isP g o s || (spec P sym g (restr K s) o).isSome || (sk && skipB g s o)
def floatStep (P : Program) (H : Hints) (m : Option Facts) (K : List Nat) (g : Option (Nat × Bool)) (o : Oper) (s : St) (next : St → Prop) : Prop :=
  match spec P (has H.sym o.dst) g (restr K s) o with
  | some x => next (setb s o x)
  | none => match o.op with
    | .load t x => match ov g s.fr x with
      | some (.v (.pointer p)) => onSome p fun ad => ldM P m s t ad fun v => next (setv s o v)
      | _ => False
    | _ => if isP g o s then genP P g o s next else False
def gSlot (ops : Array Oper) (o : Oper) : Option (Option (Nat × Bool)) :=
  match o.guard with
  | none => some none
  | some (j, want) => ((ops[j]?).bind (·.dst)).map fun d => some (d, want)
def denFloat (P : Program) (H : Hints) (m : Option Facts) (K : List Nat) (ops : Array Oper) (o : Oper) (s : St) (next : St → Prop) : Prop :=
  match gSlot ops o with
  | none => False
  | some none => floatStep P H m K none o s next
  | some (some (gs, want)) => match spec P (has H.sym o.dst) (some (gs, want)) (restr K s) o with
    | some x => if o.dst = some gs then False else next { s with fr := sput s.fr o.dst (.gd gs want x) }
    | none => guardIf s 4 gs want (fun s => floatStep P H m K (some (gs, want)) o s next) (fun s => next { s with fr := sput s.fr o.dst (.b (.v undef)) })
/-- a step that touches memory, or calls -/
def evStep (P : Program) (B : Nat) (H : Hints) (F : Facts) (K : List Nat) (late : Bool) (g : Option (Nat × Bool)) (o : Oper) (s : St) (next : St → Prop) : Prop :=
  let nx : St → Prop := fun s' => fIf late (FactsIn F s') (next s')
  match o.op with
  | .alloc t => match (P.info? t).bind (·.zero) with
    | some z => if has H.isLoc o.dst then (if K.contains (o.dst.getD 0) then False else next (allocL s (o.dst.getD 0) z.cells.toList t o.dst)) else newOp P B g o s nx
    | none => False
  | .box t x => match val g s.fr x with
    | some v => if has H.isLoc o.dst then (if K.contains (o.dst.getD 0) then False else next (allocL s (o.dst.getD 0) v.cells.toList t o.dst)) else newOp P B g o s nx
    | none => False
  | .buildSlice .. | .makeMap .. => newOp P B g o s nx
  | .store t x y => match ov g s.fr x, val g s.fr y with
    | some (.loc i off), some v => match look s.loc i with
      | some bk => if szOf P t == some v.cells.size && decide (off + v.cells.size ≤ bk.cells.length) && v.cells.toList.all oneC && (late || !K.contains i)
          then next { setv s o undef with loc := upd s.loc i ⟨splice bk.cells off v.cells.toList, bk.ty⟩, dirty := true } else False
      | none => False
    | some (.v (.pointer p)), some v => onSome p fun ad =>
        if szOf P t == some v.cells.size && v.cells.toList.all oneC then
          sync B s fun w L => ad.spot = none ∧ w.there ad.block ad.off v.cells.size ∧ guardL L ad.block (nx (setev s o undef (w.setCells ad.block ad.off v.cells.toList) L))
        else False
    | _, _ => False
  | .call { callee := .builtin _, .. } => rawOp P B H g o s nx
  | .call _ => callOp P B g o s nx
  | _ => rawOp P B H g o s nx
def denEv (P : Program) (B : Nat) (H : Hints) (F : Facts) (K : List Nat) (late : Bool) (ops : Array Oper) (o : Oper) (s : St) (next : St → Prop) : Prop :=
  match gSlot ops o with
  | none => False
  | some none => evStep P B H F K late none o s next
  | some (some (gs, want)) => guardIf s 4 gs want (fun s => evStep P B H F K late (some (gs, want)) o s next) (fun s => next { s with fr := sput s.fr o.dst (.b (.v undef)) })
def gOf (ops : Array Oper) (o : Oper) : Option (Nat × Bool) := (gSlot ops o).getD none
/-! tables of a region, as numbers: on which each waits, and which may not be behind it -/
def bitsOf : List Nat → Nat
  | [] => 0
  | i :: l => (2 ^ i) ||| bitsOf l
def depL (o : Oper) : List Nat := (o.after.toList.filter (Region.binds .any)).map (·.on)
def confL (ops : Array Oper) (i : Nat) (o : Oper) : Nat → List Oper → List Nat
  | _, [] => []
  | j, oj :: r => if j == i || o.apart ops oj || (depL oj).contains i then confL ops i o (j + 1) r else j :: confL ops i o (j + 1) r
def tabsGo (ops : Array Oper) : Nat → List Oper → List (Nat × Nat)
  | _, [] => []
  | i, o :: r => (bitsOf (depL o), bitsOf (confL ops i o 0 ops.toList)) :: tabsGo ops (i + 1) r
def tabs (ops : Array Oper) : List (Nat × Nat) := tabsGo ops 0 ops.toList
def inM (a m : Nat) : Bool := a &&& m == a
/-- which may come up -/
def readyM (m : Nat) : Nat → List (Nat × Nat) → List Nat
  | _, [] => []
  | i, (a, _) :: r => if !(m.testBit i) && inM a m then i :: readyM m (i + 1) r else readyM m (i + 1) r
/-- is a guard's outcome known? -/
def inG : List (Option (Nat × Bool)) → Option (Nat × Bool) → Bool
  | some (a, b) :: r, some (c, d) => (Nat.beq a c && b == d) || inG r (some (c, d))
  | none :: r, g => inG r g
  | _, _ => false
/-- the first that may come up and only reckons -/
def pickF (P : Program) (sk : Bool) (kn : List (Option (Nat × Bool))) (H : Hints) (K : List Nat) (ops : Array Oper) (m : Nat) (s : St) : Nat → List Oper → List (Nat × Nat) → Option (Nat × Oper)
  | i, o :: r, (a, x) :: t => if !(m.testBit i) && inM a m && inM x m && isF P (sk || inG kn (gOf ops o)) (has H.sym o.dst) (kOf K o) (gOf ops o) s o then some (i, o) else pickF P sk kn H K ops m s (i + 1) r t
  | _, _, _ => none
def fTab (l : List (Nat × Nat)) (k : List (Nat × Nat) → Prop) : Prop := fList (fun p k => match p with | (a, b) => fNat a fun a => fNat b fun b => k (a, b)) l k
theorem fTab_eq (l : List (Nat × Nat)) (k : List (Nat × Nat) → Prop) : fTab l k = k l := fList_eq (fun p k => by obtain ⟨a, b⟩ := p; simp [fNat_eq]) l k
def allB : List Nat → (Nat → Prop) → Prop
  | [], _ => True
  | [i], p => p i
  | i :: j :: r, p => p i ∧ allB (j :: r) p
theorem allB_elim {p : Nat → Prop} : ∀ {l : List Nat}, allB l p → ∀ i, i ∈ l → p i
  | [], _, _, h => by cases h
  | [i], h, j, hj => by simp only [List.mem_singleton] at hj; subst hj; exact h
  | i :: j :: r, h, x, hx => by
    rcases List.mem_cons.1 hx with rfl | hx
    · exact h.1
    · exact allB_elim h.2 x hx
/-- is there a load that has not come up? -/
def needB (m : Nat) : Nat → List Oper → Bool
  | _, [] => false
  | i, o :: r => (isLd o && !(m.testBit i)) || needB m (i + 1) r
/-- more may be known from here on -/
def extF (b : Bool) (F : Facts) (s : St) (k : Facts → Prop) : Prop := match b with
  | true => ∃ F1 : Facts, FactsIn F1 s ∧ (∀ x, x ∈ F → x ∈ F1) ∧ k F1
  | false => k F
def denAny (P : Program) (B : Nat) (H : Hints) (K : List Nat) (ops : Array Oper) (T : List (Nat × Nat)) : Nat → List (Option (Nat × Bool)) → Option Facts → Nat → St → (St → Prop) → Prop
  | 0, _, _, mask, s, k => match readyM mask 0 T with
    | [] => k s
    | _ => False
  | n + 1, kn, m, mask, s, k => match pickF P m.isNone kn H K ops mask s 0 ops.toList T with
    | some (i, o) => denFloat P H m (kOf K o) ops o s fun s' => norm s' fun s' => fNat (mask ||| 2 ^ i) fun mask => denAny P B H K ops T n kn m mask s' k
    | none => match readyM mask 0 T with
      | [] => k s
      | x :: r => match m with
        | some F => allB (x :: r) fun i => match ops[i]? with
          | some o => denEv P B H F K (lateB ops i) ops o s fun s' => norm s' fun s' => fNat (mask ||| 2 ^ i) fun mask => extF (needB mask 0 ops.toList) F s' fun F1 => denAny P B H K ops T n (gOf ops o :: kn) (some F1) mask s' k
          | none => False
        | none => False
/-- does no operation of the region touch memory but by loads? -/
def onlyReads (P : Program) (ops : Array Oper) : Bool := ops.toList.all fun o => match o.op with
  | .move _ | .assign _ | .pick .. | .fieldAddr .. | .indexAddr .. | .load .. | .nilCheck _ | .binOp .. | .unOp .. | .build .. | .field .. | .extract .. | .index .. | .slice .. | .makeFunc .. => true
  | .convert a b _ => match P.underlying a, P.underlying b with
    | some (.slice _), _ => false
    | _, some (.slice _) => false
    | _, _ => true
  | .call { callee := .builtin .len, argTypes, .. } => match P.underlying (argTypes.getD 0 0) with
    | some (.map ..) => false
    | _ => true
  | .call { callee := .builtin .max, .. } => true
  | .call { callee := .builtin .min, .. } => true
  | _ => false
def findL : List (Nat × List Nat) → Nat → List Nat
  | [], _ => []
  | (i, l) :: r, k => if i = k then l else findL r k
def denDraw (P : Program) (B : Nat) (H : Hints) (id : Nat) (ops : Array Oper) (s : St) (k : St → Prop) : Prop :=
  if P.follows .mixedOrders && Region.noSelect ops then
    fTab (tabs ops) fun T =>
    if onlyReads P ops then denAny P B H (s.loc.map (·.1)) ops T ops.size [] none 0 { s with dirty := true } k
    else ∃ F : Facts, FactsIn F s ∧
      denAny P B H ((s.loc.map (·.1)).filter fun i => !(findL H.stored id).contains i && !(ops.toList.filterMap (·.dst)).contains i) ops T ops.size [] (some F) 0 { s with dirty := true } k
  else False
end Go.X
