import Derived.Test.YtfbjellaijdgbaaDoorXGen
set_option linter.unusedVariables false
set_option linter.unusedSimpArgs false
/- The engine, part 4: the general operation. -/
namespace Go.X
open Go

def exOne (P : Program) (t : TypeId) (k : Value → Prop) : Prop :=
  if aggT P t then exTys (cellTys P 60 t) fun vs => k (.agg vs.toArray)
  else match P.underlying t with
    | some d => exTy (tyOf d) k
    | none => False
def exMany (P : Program) : List TypeId → (List Value → Prop) → Prop
  | [], k => k []
  | t :: ts, k => exOne P t fun v => exMany P ts fun vs => k (v :: vs)
def exVal (P : Program) (t : TypeId) (k : Value → Prop) : Prop :=
  match P.underlying t with
  | some (.tuple ts) => exMany P ts.toList fun vs => k (.tuple vs.toArray)
  | some _ => exOne P t k
  | none => False
theorem exOne_elim {P : Program} {t : TypeId} {k : Value → Prop} (h : exOne P t k) : ∃ v, k v := by
  unfold exOne at h
  split at h
  · obtain ⟨vs, _, hk⟩ := exTys_elim h; exact ⟨_, hk⟩
  · split at h
    · exact exTy_elim h
    · exact h.elim
theorem exMany_elim {P : Program} {ts : List TypeId} : ∀ {k : List Value → Prop}, exMany P ts k → ∃ vs, k vs := by
  induction ts with
  | nil => intro k h; exact ⟨[], h⟩
  | cons t ts ih =>
    intro k h
    obtain ⟨v, hv⟩ := exOne_elim h
    obtain ⟨vs, hk⟩ := ih hv
    exact ⟨_, hk⟩
theorem exVal_elim {P : Program} {t : TypeId} {k : Value → Prop} (h : exVal P t k) : ∃ v, k v := by
  unfold exVal at h
  split at h
  · obtain ⟨vs, hk⟩ := exMany_elim h; exact ⟨_, hk⟩
  · exact exOne_elim h
  · exact h.elim

def setv (s : St) (o : Oper) (v : Value) : St := { s with fr := sput s.fr o.dst (.b (.v v)) }
def setb (s : St) (o : Oper) (x : B0) : St := { s with fr := sput s.fr o.dst (.b x) }
def setev (s : St) (o : Oper) (v : Value) (u : World) (L : Option (List Nat)) : St := { fr := sput s.fr o.dst (.b (.v v)), loc := s.loc, u, L, dirty := false }

/-- a load from memory that is not a local's -/
def ldVC (P : Program) (s : St) (t : TypeId) (ad : Addr) (k : Value → Prop) : Prop :=
  if aggT P t then
    if (szOf P t == some (cellTys P 60 t).length) && !(cellTys P 60 t).isEmpty then exTys (cellTys P 60 t) fun vs => Cells s.u ad vs ∧ guardL s.L ad.block (k (.agg vs.toArray)) else False
  else match P.underlying t with
    | some d => exTy (tyOf d) fun v => s.u.cell? ad = some v ∧ guardL s.L ad.block (k v)
    | none => False

/-- an address cut -/
def cutA (q : Option Addr) (m l z : Nat) : Option Addr := if m = l then q else q.map (·.add (l * z))
def allJ : Nat → (Nat → Prop) → Prop
  | 0, _ => True
  | 1, p => p 0
  | n + 2, p => allJ (n + 1) p ∧ p (n + 1)

def ρ_ (g : Option (Nat × Bool)) (s : St) : Operand → Value := fun z => (val g s.fr z).getD undef
def semV (ρ : Operand → Value) (o : Oper) : Option (Sem Value) :=
  match o.op with
  | .call { callee := .builtin b, args, argTypes } => match b with
    | .append => some (Builtin.append_ argTypes o.type (args.map ρ))
    | .copy => some (Builtin.copy_ argTypes o.type (args.map ρ))
    | .delete => some (Builtin.delete_ argTypes o.type (args.map ρ))
    | .clear => some (Builtin.clear_ argTypes o.type (args.map ρ))
    | .len => some (Builtin.len_ argTypes o.type (args.map ρ))
    | _ => none
  | .convert a b x => some (convert a b (ρ x))
  | .lookup t x i ok => some (Instr.lookup t (ρ x) (ρ i) ok)
  | .makeSlice t l c => some (Instr.makeSlice t (ρ l) (ρ c))
  | .mapEntry t m k => some (Instr.mapEntry t (ρ m) (ρ k))
  | .range t x => some (Instr.range t (ρ x))
  | .next i b => some (Instr.next (ρ i) b o.type)
  | .entry i => some (Instr.entry (ρ i))
  | .binOp op t x y _ => some (do eqGuard op t x y (ρ x) (ρ y); binOp op t (ρ x) (ρ y))
  | .index t x i => some (Instr.index t (ρ x) (ρ i))
  | .typeAssert x t d ok => some (Instr.typeAssert (ρ x) t d ok)
  | _ => none
def semU (ρ : Operand → Value) (o : Oper) : Option (Sem Unit) :=
  match o.op with
  | .mapUpdate t m k x | .insert t m k x => some (Instr.mapUpdate t (ρ m) (ρ k) (ρ x))
  | .entryStore t m k x => some (Instr.entryStore t (ρ m) (ρ k) (ρ x))
  | _ => none
def entTys : List (Nat × List Nat) → Nat → List Nat
  | [], _ => []
  | (i, l) :: r, k => if i = k then l else entTys r k
/-- what a raw operation gives: by its type; a loop over a map has no types of its own -/
def exShape (P : Program) (H : Hints) (o : Oper) (k : Value → Prop) : Prop := match o.op with
  | .range .. => ∃ q : Option Addr, k (.pointer q)
  | .next .. => ∃ (b : Bool) (r : List Value), k (.tuple (Value.bool b :: r).toArray)
  | .entry _ => exMany P (entTys H.ents (o.dst.getD 0)) fun vs => k (.tuple vs.toArray)
  | _ => exVal P o.type k
theorem exShape_elim {P : Program} {H : Hints} {o : Oper} {k : Value → Prop} (h : exShape P H o k) : ∃ v, k v := by
  unfold exShape at h
  split at h
  · obtain ⟨q, h⟩ := h; exact ⟨_, h⟩
  · obtain ⟨b, r, h⟩ := h; exact ⟨_, h⟩
  · obtain ⟨vs, h⟩ := exMany_elim h; exact ⟨_, h⟩
  · exact exVal_elim h
def rawOp (P : Program) (B : Nat) (H : Hints) (g : Option (Nat × Bool)) (o : Oper) (s : St) (next : St → Prop) : Prop :=
  if o.op.operands.toList.all (fun x => (val g s.fr x).isSome) then
    match semV (ρ_ g s) o with
    | some sem => sync B s fun w L => exShape P H o fun v => ∃ w2, sem.run P w = .ok v w2 ∧ keptL L w w2 (next (setev s o v w2 L))
    | none => match semU (ρ_ g s) o with
      | some sem => sync B s fun w L => ∃ w2, sem.run P w = .ok () w2 ∧ keptL L w w2 (next (setev s o undef w2 L))
      | none => False
  else False
/-- a call (a structure, so that nothing unfolds it) -/
structure CallX (P : Program) (f : FuncId) (args : Array Value) (w : World) (R : Ending → World → Prop) : Prop where
  h : Calls P f args w R
def callOp (P : Program) (B : Nat) (g : Option (Nat × Bool)) (o : Oper) (s : St) (next : St → Prop) : Prop :=
  if o.op.operands.toList.all (fun x => (val g s.fr x).isSome) then
    match pev P (execOp (ρ_ g s) o) with
    | some (.enter f args) => sync B s fun w L => CallX P f args w fun e w2 => exVal P o.type fun v => e = .returned v ∧ keptL L w w2 (next (setev s o v w2 L))
    | _ => False
  else False
def newOp (P : Program) (B : Nat) (g : Option (Nat × Bool)) (o : Oper) (s : St) (next : St → Prop) : Prop :=
  if o.op.operands.toList.all (fun x => (val g s.fr x).isSome) then
    sync B s fun w L => match nev P (execOp (ρ_ g s) o) w with
      | some (.value v, w2) => next (setev s o v w2 L)
      | _ => False
  else False
/-- operations that only reckon, but ask something -/
def genP (P : Program) (g : Option (Nat × Bool)) (o : Oper) (s : St) (next : St → Prop) : Prop :=
  match o.op with
  | .fieldAddr t x f => match fieldOff P t f, ov g s.fr x with
    | some d, some (.v (.pointer p)) => onSome p fun ad => next (setv s o (.pointer (some (ad.add d))))
    | _, _ => False
  | .nilCheck x => match ov g s.fr x with
    | some (.v (.pointer p)) => onSome p fun ad => next (setv s o (.pointer (some ad)))
    | _ => False
  | .indexAddr t x ix => match ov g s.fr x, val g s.fr ix with
    | some (.v (.slice q len _)), some (.int _ m) => match slcOf P t with
      | some z => 0 ≤ m ∧ m < len ∧ onSome q fun ad => next (setv s o (.pointer (some (ad.add (m.toNat * z)))))
      | none => False
    | some (.v (.pointer p)), some (.int _ m) => match arrOf P t with
      | some (n, z) => 0 ≤ m ∧ m < n ∧ onSome p fun ad => next (setv s o (.pointer (some (ad.add (m.toNat * z)))))
      | none => False
    | some (.loc i off), some (.int _ m) => match arrOf P t with
      | some (n, z) => 0 ≤ m ∧ m < n ∧ allJ n fun j => m = j → next (setb s o (.loc i (off + j * z)))
      | none => False
    | _, _ => False
  | .slice t x lo hi mx => match ov g s.fr x with
    | some (.v (.slice q len cap)) => match slcOf P t, lo.map (val g s.fr), hi.map (val g s.fr), mx with
      | some z, none, none, none => next (setv s o (.slice (cutA q cap 0 z) len cap))
      | some z, some (some (.int _ l)), none, none => 0 ≤ l ∧ l ≤ len ∧ next (setv s o (.slice (cutA q cap l.toNat z) (len - l.toNat) (cap - l.toNat)))
      | some z, none, some (some (.int _ h)), none => 0 ≤ h ∧ h ≤ cap ∧ next (setv s o (.slice (cutA q cap 0 z) h.toNat cap))
      | some z, some (some (.int _ l)), some (some (.int _ h)), none => 0 ≤ h ∧ h ≤ cap ∧ 0 ≤ l ∧ l ≤ h ∧ next (setv s o (.slice (cutA q cap l.toNat z) (h.toNat - l.toNat) (cap - l.toNat)))
      | some z, none, some (some (.int _ h)), some mx => match val g s.fr mx with
        | some (.int _ m) => 0 ≤ m ∧ m ≤ cap ∧ 0 ≤ h ∧ h ≤ m ∧ next (setv s o (.slice (cutA q m.toNat 0 z) h.toNat m.toNat))
        | _ => False
      | some z, some (some (.int _ l)), some (some (.int _ h)), some mx => match val g s.fr mx with
        | some (.int _ m) => 0 ≤ m ∧ m ≤ cap ∧ 0 ≤ h ∧ h ≤ m ∧ 0 ≤ l ∧ l ≤ h ∧ next (setv s o (.slice (cutA q m.toNat l.toNat z) (h.toNat - l.toNat) (m.toNat - l.toNat)))
        | _ => False
      | _, _, _, _ => False
    | some (.v (.string b)) => match P.underlying t, lo.map (val g s.fr), hi.map (val g s.fr), mx with
      | some .string, some (some (.int _ l)), none, none => 0 ≤ l ∧ l ≤ b.size ∧ next (setv s o (.string (b.extract l.toNat b.size)))
      | some .string, none, some (some (.int _ h)), none => 0 ≤ h ∧ h ≤ b.size ∧ next (setv s o (.string (b.extract 0 h.toNat)))
      | some .string, some (some (.int _ l)), some (some (.int _ h)), none => 0 ≤ h ∧ h ≤ b.size ∧ 0 ≤ l ∧ l ≤ h ∧ next (setv s o (.string (b.extract l.toNat h.toNat)))
      | _, _, _, _ => False
    | some (.v (.pointer (some ad))) => match arrOf P t, lo.map (val g s.fr), hi.map (val g s.fr), mx with
      | some (n, _), none, none, none => next (setv s o (.slice (some ad) n n))
      | some (n, _), none, some (some (.int _ h)), none => 0 ≤ h ∧ h ≤ n ∧ next (setv s o (.slice (some ad) h.toNat n))
      | _, _, _, _ => False
    | _ => False
  | .index t x ix => match val g s.fr x, val g s.fr ix with
    | some (.string b), some (.int _ m) => match P.underlying t with
      | some .string => 0 ≤ m ∧ ∃ c : UInt8, b.data[m.toNat]? = some c ∧ next (setv s o (.int .u8 c.toNat))
      | _ => False
    | some (.agg cs), some (.int _ m) => match P.underlying t, arrOf P t with
      | some (.array _ e), some (n, z) => 0 ≤ m ∧ m < n ∧ allJ n fun j => m = j → onSome (partV P e cs (j * z)) fun v => next (setv s o v)
      | _, _ => False
    | _, _ => False
  | .binOp op _ x y _ => match val g s.fr x, val g s.fr y with
    | some vx, some vy => match op, vx, vy with
      | .add, .string a, .string b => ((a.size + b.size : Nat) : Int) ≤ IntKind.i64.max ∧ next (setv s o (.string (a ++ b)))
      | .quo, .int k a, .int k' b => if k = k' then b ≠ 0 ∧ next (setv s o (.int k (k.wrap (a.tdiv b)))) else False
      | .rem, .int k a, .int k' b => if k = k' then b ≠ 0 ∧ next (setv s o (.int k (a.tmod b))) else False
      | .shl, .int k a, .int _ b => 0 ≤ b ∧ next (setv s o (.int k (k.wrap (a * 2 ^ (min b.toNat k.bits)))))
      | .shr, .int k a, .int _ b => 0 ≤ b ∧ next (setv s o (.int k (a.fdiv (2 ^ (min b.toNat k.bits)))))
      | _, _, _ => False
    | _, _ => False
  | _ => False
/-- is it one of those? -/
def isP (g : Option (Nat × Bool)) (o : Oper) (s : St) : Bool :=
  match o.op with
  | .fieldAddr .. | .nilCheck .. | .indexAddr .. | .slice .. | .index .. => true
  | .binOp op _ x y _ => match op, val g s.fr x, val g s.fr y with
    | .add, some (.string _), some (.string _) => true
    | .quo, some (.int ..), some (.int ..) | .rem, some (.int ..), some (.int ..) | .shl, some (.int ..), some (.int ..) | .shr, some (.int ..), some (.int ..) => true
    | _, _, _ => false
  | _ => false
def gen (P : Program) (B : Nat) (H : Hints) (g : Option (Nat × Bool)) (o : Oper) (s : St) (next : St → Prop) : Prop :=
  if isP g o s then genP P g o s next else match o.op with
  | .alloc t => match (P.info? t).bind (·.zero) with
    | some z => if has H.isLoc o.dst then next (allocL s (o.dst.getD 0) z.cells.toList t o.dst) else newOp P B g o s next
    | none => False
  | .box t x => match val g s.fr x with
    | some v => if has H.isLoc o.dst then next (allocL s (o.dst.getD 0) v.cells.toList t o.dst) else newOp P B g o s next
    | none => False
  | .buildSlice .. | .makeMap .. => newOp P B g o s next
  | .load t x => match ov g s.fr x with
    | some (.v (.pointer p)) => onSome p fun ad => ldVC P s t ad fun v => next (setv s o v)
    | _ => False
  | .store t x y => match ov g s.fr x, val g s.fr y with
    | some (.loc i off), some v => match look s.loc i with
      | some bk => if szOf P t == some v.cells.size && decide (off + v.cells.size ≤ bk.cells.length) && v.cells.toList.all oneC
          then next { setv s o undef with loc := upd s.loc i ⟨splice bk.cells off v.cells.toList, bk.ty⟩, dirty := true } else False
      | none => False
    | some (.v (.pointer p)), some v => onSome p fun ad =>
        if szOf P t == some v.cells.size && v.cells.toList.all oneC then
          sync B s fun w L => ad.spot = none ∧ w.there ad.block ad.off v.cells.size ∧ guardL L ad.block (next (setev s o undef (w.setCells ad.block ad.off v.cells.toList) L))
        else False
    | _, _ => False
  | .call { callee := .builtin _, .. } => rawOp P B H g o s next
  | .call _ => callOp P B g o s next
  | _ => rawOp P B H g o s next
end Go.X
