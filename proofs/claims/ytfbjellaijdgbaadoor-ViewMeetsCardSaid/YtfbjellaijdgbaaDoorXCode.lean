import Derived.Test.YtfbjellaijdgbaaDoorXDraw
import Derived.Deep.LoopGhost
set_option linter.unusedVariables false
set_option linter.unusedSimpArgs false
/- The engine, part 8: code. -/
namespace Go.X
open Go
/-! ### code -/
def dsts : Code → List Nat
  | .region _ ops _ => ops.toList.filterMap (·.dst)
  | .seq a b => dsts a ++ dsts b
  | .cond _ a b => dsts a ++ dsts b
  | .block _ c => dsts c
  | .loop c => dsts c
  | .scope c => dsts c
  | _ => []
def firstReg : Code → Option Nat
  | .region i _ _ => some i
  | .seq a b => (firstReg a).or (firstReg b)
  | .cond _ a b => (firstReg a).or (firstReg b)
  | .block _ c => firstReg c
  | .loop c => firstReg c
  | .scope c => firstReg c
  | _ => none
def find {α : Type} : List (Nat × α) → Option Nat → Option α
  | [], _ => none
  | (i, x) :: r, k => if k = some i then some x else find r k
def rounds (f : St → (Exit → St → Prop) → Prop) (Q : Exit → St → Prop) : Nat → St → Prop
  | 0, _ => False
  | n + 1, s => f s fun e s' => match e with
    | .normal => rounds f Q n s'
    | e => Q e s'
def tysOf (slots : List (Nat × Ty)) (locs : List (Nat × List Ty)) : List Ty := slots.map (·.2) ++ locs.flatMap (·.2)
/-- the values of a loop's variables -/
def getVals (s : St) : List (Nat × Ty) → Option (List Value)
  | [] => some []
  | (j, _) :: r => match sget s.fr j with
    | .b (.v v) => (getVals s r).map (v :: ·)
    | _ => none
def getCells (s : St) : List (Nat × List Ty) → Option (List Value)
  | [] => some []
  | (i, ts) :: r => match look s.loc i with
    | some bk => if bk.cells.length = ts.length then (getCells s r).map (bk.cells ++ ·) else none
    | none => none
def junkAll (D : List Nat) : Nat → List SV → List SV
  | _, [] => []
  | j, x :: r => (if D.contains j then .junk else match x with
    | .b (.loc i off) => if D.contains i then .junk else .b (.loc i off)
    | .gd _ _ _ => .junk
    | x => x) :: junkAll D (j + 1) r
def setAll : List (Nat × Ty) → List Value → List SV → List SV
  | (j, _) :: r, v :: vs, fr => setAll r vs (fr.set j (.b (.v v)))
  | _, _, fr => fr
def chunk : List (Nat × List Ty) → List Value → Nat → Option (List Value)
  | [], _, _ => none
  | (j, ts) :: r, vs, i => if j = i then some (vs.take ts.length) else chunk r (vs.drop ts.length) i
def setLocs (locs : List (Nat × List Ty)) (vs : List Value) : List (Nat × Blk) → List (Nat × Blk)
  | [] => []
  | (i, bk) :: r => (i, ⟨(chunk locs vs i).getD bk.cells, bk.ty⟩) :: setLocs locs vs r
def headLoc (D : List Nat) (l : List (Nat × Blk)) : List (Nat × Blk) := l.filter fun p => !D.contains p.1
/-- the state at a loop's head -/
def headSt (s : St) (D : List Nat) (slots : List (Nat × Ty)) (locs : List (Nat × List Ty)) (vs : List Value) (w : World) (L : List Nat) : St :=
  { fr := setAll slots vs (junkAll D 0 s.fr), loc := setLocs locs (vs.drop slots.length) (headLoc D s.loc), u := w,
    L := match headLoc D s.loc with | [] => none | _ => some L, dirty := false }
/-- the locals that a loop leaves alone -/
def stand (s' : St) : List (Nat × Blk) → List (Nat × List Ty) → Prop → Prop
  | [], _, p => p
  | (i, bk) :: r, locs, p => match look s'.loc i with
    | some bk' => if bk'.ty = bk.ty then match chunk locs [] i with
      | some _ => stand s' r locs p
      | none => bk'.cells = bk.cells ∧ stand s' r locs p
      else False
    | none => False
def LF (B : Nat) (w : World) (L : List Nat) : Prop := ∀ b, b ∈ L → b < w.heap.size ∧ B ≤ b
def app2 {β : Type} (ts : List Ty) (f : Arrs ts β) (vs : Option (List Value)) (k : β → Prop) : Prop :=
  match vs with
  | some vs => match appTys ts f vs with
    | some b => k b
    | none => False
  | none => False
/-- slots outside what a loop writes keep their values: by the frame's own form -/
def denLoop (B : Nat) (f : St → (Exit → St → Prop) → Prop) (D : List Nat) (slots : List (Nat × Ty)) (locs : List (Nat × List Ty)) (s : St) (Q : Exit → St → Prop) : Prop :=
  sync B s fun w1 L1 => ∃ (I : Arrs (tysOf slots locs) (World → List Nat → Prop)) (μ : Arrs (tysOf slots locs) (World → Nat)),
    app2 _ I ((getVals s slots).bind fun a => (getCells s locs).map (a ++ ·)) (fun p => p w1 (Lof L1)) ∧
    allTys (tysOf slots locs) fun vs => ∀ w L, LF B w L → app2 _ I (some vs) (fun p => p w L) →
      f (headSt s D slots locs vs w L) fun e s' => match e with
        | .normal => sync B s' fun w2 L2 => stand s' (headLoc D s.loc) locs
            (app2 _ I ((getVals s' slots).bind fun a => (getCells s' locs).map (a ++ ·)) (fun p => p w2 (Lof L2)) ∧
             app2 _ μ ((getVals s' slots).bind fun a => (getCells s' locs).map (a ++ ·)) fun m2 => app2 _ μ (some vs) fun m => m2 w2 < m w)
        | e => Q e s'
/-- a block's end, where its ways meet -/
def denJoin (B : Nat) (f : (Exit → St → Prop) → Prop) (id : Nat) (D : List Nat) (slots : List (Nat × Ty)) (locs : List (Nat × List Ty)) (s : St) (Q : Exit → St → Prop) : Prop :=
  ∃ I : Arrs (tysOf slots locs) (World → List Nat → Prop),
    f (fun e s' => match e with
      | .exit i => if i = id then sync B s' fun w2 L2 => stand s' (headLoc D s.loc) locs (app2 _ I ((getVals s' slots).bind fun a => (getCells s' locs).map (a ++ ·)) fun p => p w2 (Lof L2)) else Q (.exit i) s'
      | .normal => sync B s' fun w2 L2 => stand s' (headLoc D s.loc) locs (app2 _ I ((getVals s' slots).bind fun a => (getCells s' locs).map (a ++ ·)) fun p => p w2 (Lof L2))
      | e => Q e s') ∧
    allTys (tysOf slots locs) fun vs => ∀ w L, LF B w L → app2 _ I (some vs) (fun p => p w L) → Q .normal (headSt s D slots locs vs w L)
/-- a drawn region's end, where its orders meet: the locals that it has itself laid (ins) go on -/
def headLocJ (D : List Nat) (l : List (Nat × Blk)) (ins : List (Nat × TypeId)) : List (Nat × Blk) := headLoc D l ++ ins.map fun p => (p.1, ⟨[], p.2⟩)
def setIns : List (Nat × TypeId) → List SV → List SV
  | [], fr => fr
  | (j, _) :: r, fr => setIns r (fr.set j (.b (.loc j 0)))
def inst (s' : St) : List (Nat × TypeId) → Prop → Prop
  | [], p => p
  | (j, _) :: r, p => match sget s'.fr j with
    | .b (.loc i off) => if i = j then if off = 0 then inst s' r p else False else False
    | _ => False
def headStJ (s : St) (D : List Nat) (slots : List (Nat × Ty)) (locs : List (Nat × List Ty)) (ins : List (Nat × TypeId)) (vs : List Value) (w : World) (L : List Nat) : St :=
  { fr := setIns ins (setAll slots vs (junkAll D 0 s.fr)), loc := setLocs locs (vs.drop slots.length) (headLocJ D s.loc ins), u := w,
    L := match headLocJ D s.loc ins with | [] => none | _ => some L, dirty := false }
def denJoinR (B : Nat) (f : (St → Prop) → Prop) (D : List Nat) (slots : List (Nat × Ty)) (locs : List (Nat × List Ty)) (ins : List (Nat × TypeId)) (s : St) (Q : St → Prop) : Prop :=
  ∃ I : Arrs (tysOf slots locs) (World → List Nat → Prop),
    f (fun s' => sync B s' fun w2 L2 => inst s' ins (stand s' (headLocJ D s.loc ins) locs (app2 _ I ((getVals s' slots).bind fun a => (getCells s' locs).map (a ++ ·)) fun p => p w2 (Lof L2)))) ∧
    allTys (tysOf slots locs) fun vs => ∀ w L, LF B w L → app2 _ I (some vs) (fun p => p w L) → Q (headStJ s D slots locs ins vs w L)
def den (P : Program) (B : Nat) (H : Hints) : Code → St → (Exit → St → Prop) → Prop
  | .skip, s, Q => Q .normal s
  | .region _ ops false, s, Q => denOps P B H ops ops.toList s (Q .normal)
  | .region i ops true, s, Q => match find H.rjoins (some i) with
    | some (slots, locs, ins) => denJoinR B (denDraw P B H i ops s) (dsts (.region i ops true)) slots locs ins s (Q .normal)
    | none => denDraw P B H i ops s (Q .normal)
  | .seq x y, s, Q => den P B H x s fun e s' => match e with
    | .normal => den P B H y s' Q
    | e => Q e s'
  | .cond c x y, s, Q => match osv s.fr c with
    | .b (.v (.bool t)) => if t = true then den P B H x s Q else den P B H y s Q
    | _ => False
  | .block id c, s, Q => match find H.joins (some id) with
    | some (slots, locs) => denJoin B (den P B H c s) id (dsts c) slots locs s Q
    | none => den P B H c s fun e s' => match e with
      | .exit i => if i = id then Q .normal s' else Q (.exit i) s'
      | e => Q e s'
  | .loop c, s, Q => match find H.loops (firstReg c) with
    | some (.unroll n) => rounds (den P B H c) Q n s
    | some (.inv slots locs _) => denLoop B (den P B H c) (dsts c) slots locs s Q
    | none => False
  | .exit id, s, Q => Q (.exit id) s
  | .ret, s, Q => Q .ret s
  | _, _, _ => False
end Go.X
