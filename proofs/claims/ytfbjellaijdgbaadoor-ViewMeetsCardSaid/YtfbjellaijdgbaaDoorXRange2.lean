import Derived.Test.YtfbjellaijdgbaaDoorXRange
import Derived.OrdersIn
import Derived.RegionIn
set_option linter.unusedVariables false
set_option linter.unusedSimpArgs false
/- The engine, part: iterators whose elements lie in memory; regions in any order, by hand. -/
namespace Go.X
open Go RowKit
/-- an iterator's contract, where what it yields can be read in memory -/
def SeqM {β : Type} (P : Program) (f : FuncId) (lb : Array Value) (enc : β → Value) (pre : Mem → Prop) (Cs Ds : List Asn) (S : List β → Mem → Prop) (N : Nat) : Prop :=
  ∀ n l (J : List β → List Asn), (∀ ys x, ys.length < N → YCtr P l #[enc x] (J ys) (J (ys ++ [x]))) → ∀ F0 m0 w0 w m As, pre m → Ctx F0 m0 w0 w [] m (Cs ++ (J [] ++ As)) →
    CallsIn Fence.wide n P f (#[.func (.yield l) #[] #[]] ++ lb) w fun e w' => (∃ v, e = .returned v) ∧ ∃ ys m', S ys m' ∧ m.le m' ∧ Ctx F0 m0 w0 w' [] m' (Ds ++ (J ys ++ As))
section
variable {F : Fence} {n : Nat} {P : Program} {md : Region.Mode} {ops : Array Oper} {Q : Exit → Act → World → Prop} {fuel : Nat} {listed : Array Bool} {o : Oper} {a : Act} {w w' : World} {v : Value} {i k : Nat} {rs : List Nat}
theorem anyV (hF : ∀ f, F.fn f) (ho : ops[i]? = some o) (hk : o.dst = some k) (hg : o.guard = none) (hd : ∀ c, o.op ≠ .defer c) (hr : (execOp a.eval o).run P w = .ok (.value v) w')
    (hK : wpAnyIn F n P md ops Q fuel (listed.setIfInBounds i true) (a.put (some k) v) w') (hs : AllReadyIn F n P md ops Q fuel listed a w rs) : AllReadyIn F n P md ops Q fuel listed a w (i :: rs) :=
  AllReadyIn.cons ho (fun K h => by
    rw [if_pos (by simp [Region.wanted, hg])]
    unfold Oper.wpIn
    refine ⟨fun f _ => hF f, ?_⟩
    rw [Oper.semAt_plain F _ _ hd, hr]
    rw [← hk] at hK
    exact h _ _ hK) hs
theorem anyC {f : FuncId} {args : Array Value} (hF : ∀ f, F.fn f) (hn : F.depth = none) (ho : ops[i]? = some o) (hk : o.dst = some k) (hg : o.guard = none) (hd : ∀ c, o.op ≠ .defer c) (hr : (execOp a.eval o).run P w = .ok (.enter f args) w')
    (hR : CallsIn F (n - 1) P f args w' fun e w'' => ∃ v, e = .returned v ∧ wpAnyIn F n P md ops Q fuel (listed.setIfInBounds i true) (a.put (some k) v) w'') (hs : AllReadyIn F n P md ops Q fuel listed a w rs) : AllReadyIn F n P md ops Q fuel listed a w (i :: rs) :=
  AllReadyIn.cons ho (fun K h => by
    rw [if_pos (by simp [Region.wanted, hg])]
    unfold Oper.wpIn
    refine ⟨fun f _ => hF f, ?_⟩
    rw [Oper.semAt_plain F _ _ hd, hr]
    refine ⟨fun h => absurd h (by rw [hn]; decide), hR.mono fun e w'' hh => ?_⟩
    obtain ⟨v, rfl, hh⟩ := hh
    rw [← hk] at hh
    exact h _ _ hh) hs
theorem anyY {l : Nat} {fn : FuncId} {tmps : Array Value} {assign body : Code} (hF : ∀ f, F.fn f) (hn : F.depth = none) (ho : ops[i]? = some o) (hk : o.dst = some k) (hg : o.guard = none) (hd : ∀ c, o.op ≠ .defer c)
    (hr : (execOp a.eval o).run P w = .ok (.round l fn tmps assign body) w')
    (hR : RoundIn F (n - 1) P l fn tmps assign body w' fun e w'' => ∃ v, e = .returned v ∧ wpAnyIn F n P md ops Q fuel (listed.setIfInBounds i true) (a.put (some k) v) w'') (hs : AllReadyIn F n P md ops Q fuel listed a w rs) : AllReadyIn F n P md ops Q fuel listed a w (i :: rs) :=
  AllReadyIn.cons ho (fun K h => by
    rw [if_pos (by simp [Region.wanted, hg])]
    unfold Oper.wpIn
    refine ⟨fun f _ => hF f, ?_⟩
    rw [Oper.semAt_plain F _ _ hd, hr]
    refine ⟨fun h => absurd h (by rw [hn]; decide), hR.mono fun e w'' hh => ?_⟩
    obtain ⟨v, rfl, hh⟩ := hh
    rw [← hk] at hh
    exact h _ _ hh) hs
theorem anyT (hro : F.round = none) (hi : ops[i]? = some o) (hk : o.dst = some k) (hs : Region.noSelect ops = true) (hf : Region.free md ops listed i = true) (hr : (Region.ready md ops listed).contains i = true)
    (hQ : ∀ c a w, Q (.panic c) (a.put o.dst v) w → Q (.panic c) a w) (hy : YieldsFenced P ops o v a)
    (h : wpAnyIn F n P md ops Q fuel (listed.setIfInBounds i true) (a.put (some k) v) w) : wpAnyIn F n P md ops Q (fuel + 1) listed a w :=
  wpAnyIn_take hro hi hs hf hr hQ hy (by rw [hk]; exact h)
end
section
variable {P : Program} {o : Oper} {ρ : Operand → Value} {w w' : World} {v : Value}
theorem ex_nil {x : Operand} {ad : Addr} (ho : o.op = .nilCheck x) (hx : ρ x = .pointer (some ad)) : (execOp ρ o).run P w = .ok (.value (.pointer (some ad))) w := by simp [execOp, ho, hx]
theorem ex_fieldAddr {t : TypeId} {x : Operand} {a : Value} {f : Nat} (ho : o.op = .fieldAddr t x f) (hx : ρ x = a) (h : (Instr.fieldAt t a f).run P w = .ok v w') : (execOp ρ o).run P w = .ok (.value v) w' := by subst hx; simp [execOp, ho, Sem.run_bind, h]
theorem ex_indexAddr {t : TypeId} {x i : Operand} {a b : Value} (ho : o.op = .indexAddr t x i) (hx : ρ x = a) (hi : ρ i = b) (h : (Instr.indexAt t a b).run P w = .ok v w') : (execOp ρ o).run P w = .ok (.value v) w' := by subst hx; subst hi; simp [execOp, ho, Sem.run_bind, h]
theorem ex_loadV {t : TypeId} {x : Operand} {a : Value} (ho : o.op = .load t x) (hx : ρ x = a) (h : (Instr.loadAt t a).run P w = .ok v w') : (execOp ρ o).run P w = .ok (.value v) w' := by subst hx; simp [execOp, ho, Sem.run_bind, h]
theorem ex_lookup {t : TypeId} {x i : Operand} {a b : Value} {ok : Bool} (ho : o.op = .lookup t x i ok) (hx : ρ x = a) (hi : ρ i = b) (h : (Instr.lookup t a b ok).run P w = .ok v w') : (execOp ρ o).run P w = .ok (.value v) w' := by subst hx; subst hi; simp [execOp, ho, Sem.run_bind, h]
theorem ex_len {x : Operand} {ts : Array TypeId} {a : Value} (ho : o.op = .call { callee := .builtin .len, args := #[x], argTypes := ts }) (hx : ρ x = a)
    (h : (Builtin.len_ ts o.type #[a]).run P w = .ok v w') : (execOp ρ o).run P w = .ok (.value v) w' := by
  subst hx
  simp [execOp, ho, Sem.run_bind, Go.resolve, invoke, builtin, h]
theorem ex_call {f : FuncId} {xs : Array Operand} {ts : Array TypeId} {vs : Array Value} {fo : Operand} (ho : o.op = .call { callee := .value fo, args := xs, argTypes := ts }) (hf : ρ fo = .func (.func f) #[] #[]) (hx : xs.map ρ = vs)
    (h : (callFunc f vs).run P w = .ok (.enter f vs) w) : (execOp ρ o).run P w = .ok (.enter f vs) w := by
  subst hx
  simp [execOp, ho, Sem.run_bind, Go.resolve, Deferred.ofValue, invoke, hf, h]
theorem ex_binOp {b : BinOp} {t t2 : TypeId} {x y : Operand} {p q : Value} (ho : o.op = .binOp b t x y t2) (hx : ρ x = p) (hy : ρ y = q) (h : (do eqGuard b t x y p q; binOp b t p q : Sem Value).run P w = .ok v w') : (execOp ρ o).run P w = .ok (.value v) w' := by
  subst hx; subst hy
  simp only [execOp, ho]
  rw [Sem.run_bind, h]
  rfl
end
end Go.X
