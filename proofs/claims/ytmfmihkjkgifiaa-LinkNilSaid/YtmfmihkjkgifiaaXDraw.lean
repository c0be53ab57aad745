import Derived.Test.YtmfmihkjkgifiaaXCode1
import Derived.OrdersHeld
/- The engine, part 7b: regions whose order the tape draws. -/
set_option linter.unusedVariables false
set_option linter.unusedSimpArgs false
namespace Go.X
open Go

/-- facts on memory that all events of the region leave alone -/
abbrev Facts := List (Addr × List Value)
def FactsW (F : Facts) (u : World) (L : List Nat) : Prop := ∀ ad vs, (ad, vs) ∈ F → Cells u ad vs ∧ ad.block < u.heap.size ∧ ad.block ∉ L
def FactsIn (F : Facts) (s : St) : Prop := FactsW F s.u (Lof s.L)
def ldF (P : Program) (F : Facts) (t : TypeId) (ad : Addr) (k : Value → Prop) : Prop :=
  if aggT P t then
    if szOf P t == some (cellTys P 60 t).length then exTys (cellTys P 60 t) fun vs => (ad, vs) ∈ F ∧ k (.agg vs.toArray) else False
  else match P.underlying t with
    | some d => exTy (tyOf d) fun v => (ad, [v]) ∈ F ∧ k v
    | none => False
def ldM (P : Program) (m : Option Facts) (s : St) (t : TypeId) (ad : Addr) (k : Value → Prop) : Prop :=
  match m with
  | none => ldVC P s t ad k
  | some F => ldF P F t ad k
/-- the locals that the region leaves alone -/
def restr (K : List Nat) (s : St) : St := { s with loc := s.loc.filter fun p => K.contains p.1 }
def isLd (o : Oper) : Bool := match o.op with
  | .load .. => true
  | _ => false
def kOf (K : List Nat) (o : Oper) : List Nat := if isLd o then K else []
/-- an operation that may change what was there -/
def turns (o : Oper) : Bool := match o.op with
  | .store .. | .mapUpdate .. | .insert .. | .entryStore .. => true
  | .call { callee := .builtin b, .. } => match b with
    | .append | .copy | .delete | .clear => true
    | _ => false
  | .call _ => true
  | _ => false
/-- do all loads of the region come ahead of this one? -/
def lateB (ops : Array Oper) (j : Nat) : Bool := match ops[j]? with
  | none => false
  | some o => turns o && (List.range ops.size).all fun k => match ops[k]? with
    | some ok => !isLd ok || o.after.any (fun e => Region.binds .any e && e.on == k)
    | none => true
def fIf (late : Bool) (p q : Prop) : Prop := match late with
  | true => q
  | false => p ∧ q
theorem fIf_elim {late : Bool} {p q : Prop} (h : fIf late p q) : (late = false → p) ∧ q := by
  cases late with
  | true => exact ⟨(fun e => by cases e), h⟩
  | false => exact ⟨fun _ => h.1, h.2⟩
/-- is an operation's guard known not to be met? -/
def skipB (g : Option (Nat × Bool)) (s : St) (o : Oper) : Bool := match g with
  | some (gs, want) => match sget s.fr gs with
    | .b (.v (.bool t)) => t != want && !turns o
    | _ => false
  | none => false
def isF (P : Program) (sym : Bool) (K : List Nat) (g : Option (Nat × Bool)) (s : St) (o : Oper) : Bool :=
  match o.op with
  | .load .. => true
  | _ => isP g o s || (spec P sym g (restr K s) o).isSome || skipB g s o
def floatStep (P : Program) (H : Hints) (m : Option Facts) (K : List Nat) (g : Option (Nat × Bool)) (o : Oper) (s : St) (next : St → Prop) : Prop :=
  match spec P (has H.sym o.dst) g (restr K s) o with
  | some x => next (setb s o x)
  | none => match o.op with
    | .load t x => match ov g s.fr x with
      | some (.v (.pointer p)) => onSome p fun ad => ldM P m s t ad fun v => next (setv s o v)
      | _ => False
    | _ => if isP g o s then genP P g o s next else False
def gSlot (ops : Array Oper) (o : Oper) : Option (Option (Nat × Bool)) :=
  match o.guard with
  | none => some none
  | some (j, want) => ((ops[j]?).bind (·.dst)).map fun d => some (d, want)
def denFloat (P : Program) (H : Hints) (m : Option Facts) (K : List Nat) (ops : Array Oper) (o : Oper) (s : St) (next : St → Prop) : Prop :=
  match gSlot ops o with
  | none => False
  | some none => floatStep P H m K none o s next
  | some (some (gs, want)) => match spec P (has H.sym o.dst) (some (gs, want)) (restr K s) o with
    | some x => if o.dst = some gs then False else next { s with fr := sput s.fr o.dst (.gd gs want x) }
    | none => guardIf s 4 gs want (fun s => floatStep P H m K (some (gs, want)) o s next) (fun s => next { s with fr := sput s.fr o.dst (.b (.v undef)) })
/-- a step that touches memory, or calls -/
def evStep (P : Program) (B : Nat) (H : Hints) (F : Facts) (K : List Nat) (late : Bool) (g : Option (Nat × Bool)) (o : Oper) (s : St) (next : St → Prop) : Prop :=
  let nx : St → Prop := fun s' => fIf late (FactsIn F s') (next s')
  match o.op with
  | .alloc t => match (P.info? t).bind (·.zero) with
    | some z => if has H.isLoc o.dst then (if K.contains (o.dst.getD 0) then False else next (allocL s (o.dst.getD 0) z.cells.toList t o.dst)) else newOp P B g o s nx
    | none => False
  | .box t x => match val g s.fr x with
    | some v => if has H.isLoc o.dst then (if K.contains (o.dst.getD 0) then False else next (allocL s (o.dst.getD 0) v.cells.toList t o.dst)) else newOp P B g o s nx
    | none => False
  | .buildSlice .. | .makeMap .. => newOp P B g o s nx
  | .store t x y => match ov g s.fr x, val g s.fr y with
    | some (.loc i off), some v => match look s.loc i with
      | some bk => if szOf P t == some v.cells.size && decide (off + v.cells.size ≤ bk.cells.length) && v.cells.toList.all oneC && !K.contains i
          then next { setv s o undef with loc := upd s.loc i ⟨splice bk.cells off v.cells.toList, bk.ty⟩, dirty := true } else False
      | none => False
    | some (.v (.pointer p)), some v => onSome p fun ad =>
        if szOf P t == some v.cells.size && v.cells.toList.all oneC then
          sync B s fun w L => ad.spot = none ∧ w.there ad.block ad.off v.cells.size ∧ guardL L ad.block (nx (setev s o undef (w.setCells ad.block ad.off v.cells.toList) L))
        else False
    | _, _ => False
  | .call { callee := .builtin _, .. } => rawOp P B g o s nx
  | .call _ => callOp P B g o s nx
  | _ => rawOp P B g o s nx
def denEv (P : Program) (B : Nat) (H : Hints) (F : Facts) (K : List Nat) (late : Bool) (ops : Array Oper) (o : Oper) (s : St) (next : St → Prop) : Prop :=
  match gSlot ops o with
  | none => False
  | some none => evStep P B H F K late none o s next
  | some (some (gs, want)) => guardIf s 4 gs want (fun s => evStep P B H F K late (some (gs, want)) o s next) (fun s => next { s with fr := sput s.fr o.dst (.b (.v undef)) })
def gOf (ops : Array Oper) (o : Oper) : Option (Nat × Bool) := (gSlot ops o).getD none
/-- the first that may come up and only reckons -/
def pickF (P : Program) (H : Hints) (K : List Nat) (ops : Array Oper) (listed : Array Bool) (s : St) : List Nat → Option (Nat × Oper)
  | [] => none
  | i :: r => match ops[i]? with
    | some o => if isF P (has H.sym o.dst) (kOf K o) (gOf ops o) s o && Region.free .any ops listed i then some (i, o) else pickF P H K ops listed s r
    | none => none
def allB : List Nat → (Nat → Prop) → Prop
  | [], _ => True
  | [i], p => p i
  | i :: j :: r, p => p i ∧ allB (j :: r) p
theorem allB_elim {p : Nat → Prop} : ∀ {l : List Nat}, allB l p → ∀ i, i ∈ l → p i
  | [], _, _, h => by cases h
  | [i], h, j, hj => by simp only [List.mem_singleton] at hj; subst hj; exact h
  | i :: j :: r, h, x, hx => by
    rcases List.mem_cons.1 hx with rfl | hx
    · exact h.1
    · exact allB_elim h.2 x hx
/-- is there a load that has not come up? -/
def needB (ops : Array Oper) (listed : Array Bool) : Bool := (List.range ops.size).any fun k => match ops[k]? with
  | some ok => isLd ok && !(listed.getD k true)
  | none => false
/-- more may be known from here on -/
def extF (b : Bool) (F : Facts) (s : St) (k : Facts → Prop) : Prop := match b with
  | true => ∃ F1 : Facts, FactsIn F1 s ∧ (∀ x, x ∈ F → x ∈ F1) ∧ k F1
  | false => k F
def denAny (P : Program) (B : Nat) (H : Hints) (K : List Nat) (ops : Array Oper) : Nat → Option Facts → Array Bool → St → (St → Prop) → Prop
  | 0, _, listed, s, k => match Region.ready .any ops listed with
    | [] => k s
    | _ => False
  | n + 1, m, listed, s, k => match pickF P H K ops listed s (Region.ready .any ops listed) with
    | some (i, o) => denFloat P H m (kOf K o) ops o s fun s' => norm s' fun s' => denAny P B H K ops n m (listed.setIfInBounds i true) s' k
    | none => match Region.ready .any ops listed with
      | [] => k s
      | x :: r => match m with
        | some F => allB (x :: r) fun i => match ops[i]? with
          | some o => denEv P B H F K (lateB ops i) ops o s fun s' => norm s' fun s' => extF (needB ops (listed.setIfInBounds i true)) F s' fun F1 => denAny P B H K ops n (some F1) (listed.setIfInBounds i true) s' k
          | none => False
        | none => False
/-- does no operation of the region touch memory but by loads? -/
def onlyReads (ops : Array Oper) : Bool := ops.toList.all fun o => match o.op with
  | .move _ | .assign _ | .pick .. | .fieldAddr .. | .indexAddr .. | .load .. | .nilCheck _ | .binOp .. | .unOp .. | .build .. | .field .. | .extract .. | .index .. | .slice .. | .makeFunc .. => true
  | .convert .. => true
  | .call { callee := .builtin .len, .. } => true
  | .call { callee := .builtin .max, .. } => true
  | .call { callee := .builtin .min, .. } => true
  | _ => false
def findL : List (Nat × List Nat) → Nat → List Nat
  | [], _ => []
  | (i, l) :: r, k => if i = k then l else findL r k
def denDraw (P : Program) (B : Nat) (H : Hints) (id : Nat) (ops : Array Oper) (s : St) (k : St → Prop) : Prop :=
  if P.follows .mixedOrders && Region.noSelect ops then
    if onlyReads ops then denAny P B H (s.loc.map (·.1)) ops ops.size none (Array.replicate ops.size false) { s with dirty := true } k
    else ∃ F : Facts, FactsIn F s ∧
      denAny P B H ((s.loc.map (·.1)).filter fun i => !(findL H.stored id).contains i && !(ops.toList.filterMap (·.dst)).contains i) ops ops.size (some F) (Array.replicate ops.size false) { s with dirty := true } k
  else False
end Go.X
