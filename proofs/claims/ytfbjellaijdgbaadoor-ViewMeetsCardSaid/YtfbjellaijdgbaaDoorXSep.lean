import Derived.Test.YtfbjellaijdgbaaDoorXUse
import Derived.Laws.AppendOwn
set_option linter.unusedVariables false
set_option linter.unusedSimpArgs false
/- The engine, part 15: owned pieces of memory, side by side; contracts over them. -/
namespace Go.X
open Go RowKit

/-! ### pieces of memory -/
/-- a piece of memory: what it says of a world, with the blocks that it owns; it hangs on these blocks alone -/
structure Asn where
  p : World → List Nat → Prop
  loc : ∀ (w w' : World) (F : List Nat), (∀ b, b ∈ F → w'.heap[b]? = w.heap[b]?) → p w F → p w' F
/-- pieces side by side -/
def Sat (w : World) : List Asn → List Nat → Prop
  | [], F => F = []
  | A :: As, F => ∃ F1 F2, F = F1 ++ F2 ∧ (∀ b, b ∈ F1 → b ∉ F2) ∧ A.p w F1 ∧ Sat w As F2
theorem Sat.frame : ∀ {As : List Asn} {w w' : World} {F : List Nat}, Sat w As F → (∀ b, b ∈ F → w'.heap[b]? = w.heap[b]?) → Sat w' As F
  | [], _, _, _, h, _ => h
  | A :: As, w, w', F, h, hk => by
    obtain ⟨F1, F2, rfl, hd, h1, h2⟩ := h
    exact ⟨F1, F2, rfl, hd, A.loc w w' F1 (fun b hb => hk b (by simp [hb])) h1, h2.frame fun b hb => hk b (by simp [hb])⟩
theorem Sat.append {w : World} : ∀ {As Bs : List Asn} {F G : List Nat}, Sat w As F → Sat w Bs G → (∀ b, b ∈ F → b ∉ G) → Sat w (As ++ Bs) (F ++ G)
  | [], _, _, _, h, k, _ => by cases h; exact k
  | A :: As, Bs, F, G, h, k, hd => by
    obtain ⟨F1, F2, rfl, h12, h1, h2⟩ := h
    refine ⟨F1, F2 ++ G, by simp, fun b hb => ?_, h1, h2.append k fun b hb => hd b (by simp [hb])⟩
    simp only [List.mem_append, not_or]
    exact ⟨h12 b hb, hd b (by simp [hb])⟩
theorem Sat.split {w : World} : ∀ {As Bs : List Asn} {F : List Nat}, Sat w (As ++ Bs) F → ∃ F1 F2, F = F1 ++ F2 ∧ (∀ b, b ∈ F1 → b ∉ F2) ∧ Sat w As F1 ∧ Sat w Bs F2
  | [], _, F, h => ⟨[], F, rfl, by simp, rfl, h⟩
  | A :: As, Bs, F, h => by
    obtain ⟨F1, F2, rfl, hd, h1, h2⟩ := h
    obtain ⟨G1, G2, rfl, hd2, k1, k2⟩ := h2.split
    refine ⟨F1 ++ G1, G2, by simp, fun b hb => ?_, ⟨F1, G1, rfl, fun b hb hc => hd b hb (by simp [hc]), h1, k1⟩, k2⟩
    rcases List.mem_append.1 hb with hb | hb
    · exact fun hc => hd b hb (by simp [hc])
    · exact hd2 b hb
/-- an order of the pieces -/
theorem Sat.perm {w : World} {As Bs : List Asn} (hp : As.Perm Bs) : ∀ {F : List Nat}, Sat w As F → ∃ G, Sat w Bs G ∧ ∀ b, b ∈ G ↔ b ∈ F := by
  induction hp with
  | nil => intro F h; exact ⟨F, h, fun _ => Iff.rfl⟩
  | cons A _ ih =>
    intro F h
    obtain ⟨F1, F2, rfl, hd, h1, h2⟩ := h
    obtain ⟨G, hG, hm⟩ := ih h2
    exact ⟨F1 ++ G, ⟨F1, G, rfl, fun b hb => by rw [hm]; exact hd b hb, h1, hG⟩, fun b => by simp [hm]⟩
  | swap A B l =>
    intro F h
    obtain ⟨F1, F2, rfl, hd, h1, F3, F4, rfl, hd2, h3, h4⟩ := h
    refine ⟨F3 ++ (F1 ++ F4), ⟨F3, F1 ++ F4, rfl, fun b hb => ?_, h3, F1, F4, rfl, fun b hb hc => hd b hb (by simp [hc]), h1, h4⟩, fun b => by simp; constructor <;> (intro h; rcases h with h | h | h <;> simp [h])⟩
    simp only [List.mem_append, not_or]
    exact ⟨fun hc => hd b hc (by simp [hb]), hd2 b hb⟩
  | trans _ _ ih1 ih2 =>
    intro F h
    obtain ⟨G, hG, hm⟩ := ih1 h
    obtain ⟨G', hG', hm'⟩ := ih2 hG
    exact ⟨G', hG', fun b => (hm' b).trans (hm b)⟩

/-- one block, whole -/
def blk (b : Nat) (cs : List Value) (ty : TypeId) : Asn :=
  ⟨fun w F => F = [b] ∧ w.heap[b]? = some (.cells cs.toArray ty (0, 0)), fun w w' F hk h => ⟨h.1, by rw [hk b (by rw [h.1]; simp)]; exact h.2⟩⟩
/-- a map's block -/
def mapB (b : Nat) (es : List MapEntry) (clock : Nat) : Asn :=
  ⟨fun w F => F = [b] ∧ w.heap[b]? = some (.map es.toArray clock), fun w w' F hk h => ⟨h.1, by rw [hk b (by rw [h.1]; simp)]; exact h.2⟩⟩
/-- any block -/
def objB (b : Nat) (o : Obj) : Asn :=
  ⟨fun w F => F = [b] ∧ w.heap[b]? = some o, fun w w' F hk h => ⟨h.1, by rw [hk b (by rw [h.1]; simp)]; exact h.2⟩⟩
def Asn.ex {ι : Type} (f : ι → Asn) : Asn := ⟨fun w F => ∃ i, (f i).p w F, fun w w' F hk ⟨i, h⟩ => ⟨i, (f i).loc w w' F hk h⟩⟩
def Asn.pr (φ : Prop) (A : Asn) : Asn := ⟨fun w F => φ ∧ A.p w F, fun w w' F hk ⟨h1, h⟩ => ⟨h1, A.loc w w' F hk h⟩⟩
def Asn.all (As : List Asn) : Asn := ⟨fun w F => Sat w As F, fun w w' F hk h => h.frame hk⟩
def Asn.emp : Asn := Asn.all []

/-! ### what is read, and stays -/
abbrev Mem := Addr → Option Value
def Mem.le (m m' : Mem) : Prop := ∀ a v, m a = some v → m' a = some v
theorem Mem.le_refl (m : Mem) : m.le m := fun _ _ h => h
theorem Mem.le_trans {m m' m'' : Mem} (h : m.le m') (k : m'.le m'') : m.le m'' := fun a v e => k a v (h a v e)
theorem Mem.le.le_trans {m m' m'' : Mem} (h : m.le m') (k : m'.le m'') : m.le m'' := Mem.le_trans h k
def MCells (m : Mem) (a : Addr) (vs : List Value) : Prop := ∀ j v, vs[j]? = some v → m (a.add j) = some v
theorem MCells.mono {m m' : Mem} {a : Addr} {vs : List Value} (h : MCells m a vs) (hm : m.le m') : MCells m' a vs := fun j v e => hm _ _ (h j v e)
/-- a block beside what is read -/
def Mem.plus (m : Mem) (b : Nat) (cs : List Value) : Mem := fun a => if a.block = b then (if a.spot.isSome then none else cs[a.off]?) else m a

structure Own (F0 : List Nat) (w0 w : World) (L : List Nat) (m : Mem) (F : List Nat) : Prop where
  inF : ∀ b, b ∈ F → b < w.heap.size ∧ b ∉ L ∧ (b ∈ F0 ∨ w0.heap.size ≤ b)
  mem : ∀ a v, m a = some v → w.cell? a = some v ∧ a.block ∉ F ∧ a.block ∉ L
/-- where a walk stands: at the start the world was w0, with the blocks F0 owned and m0 to be read; it is w, with the locals L, the pieces As owned, and m to be read -/
structure Ctx (F0 : List Nat) (m0 : Mem) (w0 w : World) (L : List Nat) (m : Mem) (As : List Asn) : Prop where
  hid : Hid F0 w0 w
  f0 : ∀ b, b ∈ F0 → b < w0.heap.size
  le : m0.le m
  new : ∀ a v, m a = some v → m0 a = some v ∨ a.block ∈ F0 ∨ w0.heap.size ≤ a.block
  loc : ∀ b, b ∈ L → w0.heap.size ≤ b ∧ b < w.heap.size
  own : ∃ F, Sat w As F ∧ Own F0 w0 w L m F

theorem Ctx.start {w : World} {F : List Nat} {m : Mem} {As : List Asn} (h : Sat w As F) (hf : ∀ b, b ∈ F → b < w.heap.size) (hm : ∀ a v, m a = some v → w.cell? a = some v ∧ a.block ∉ F) : Ctx F m w w [] m As :=
  ⟨Hid.refl _ _, hf, Mem.le_refl _, fun a v h => .inl h, by simp, F, h, fun b hb => ⟨hf b hb, by simp, .inl hb⟩, fun a v h => ⟨(hm a v h).1, (hm a v h).2, by simp⟩⟩

section
variable {F0 : List Nat} {m0 : Mem} {w0 w : World} {L : List Nat} {m : Mem} {A B : Asn} {As Bs : List Asn}
theorem Ctx.sub (C : Ctx F0 m0 w0 w L m As) (h : ∀ F, Sat w As F → (∀ b, b ∈ F → b < w.heap.size) → ∃ G, Sat w Bs G ∧ ∀ b, b ∈ G → b ∈ F) : Ctx F0 m0 w0 w L m Bs := by
  obtain ⟨F, hF, ho⟩ := C.own
  obtain ⟨G, hG, hm⟩ := h F hF (fun b hb => (ho.inF b hb).1)
  exact ⟨C.hid, C.f0, C.le, C.new, C.loc, G, hG, fun b hb => ho.inF b (hm b hb), fun a v h => ⟨(ho.mem a v h).1, fun hc => (ho.mem a v h).2.1 (hm _ hc), (ho.mem a v h).2.2⟩⟩
theorem Ctx.perm (C : Ctx F0 m0 w0 w L m As) (h : As.Perm Bs) : Ctx F0 m0 w0 w L m Bs :=
  C.sub fun F hF _ => by obtain ⟨G, hG, hm⟩ := hF.perm h; exact ⟨G, hG, fun b hb => (hm b).1 hb⟩
theorem Ctx.drop (C : Ctx F0 m0 w0 w L m (A :: As)) : Ctx F0 m0 w0 w L m As :=
  C.sub fun F hF _ => by obtain ⟨F1, F2, rfl, _, _, h2⟩ := hF; exact ⟨F2, h2, fun b hb => by simp [hb]⟩
theorem Ctx.swap (C : Ctx F0 m0 w0 w L m (A :: B :: As)) : Ctx F0 m0 w0 w L m (B :: A :: As) := C.perm (.swap ..)
theorem Ctx.rot (C : Ctx F0 m0 w0 w L m (A :: As)) : Ctx F0 m0 w0 w L m (As ++ [A]) := C.perm (List.perm_append_comm (l₁ := [A]))
theorem Ctx.third {D : Asn} (C : Ctx F0 m0 w0 w L m (A :: B :: D :: As)) : Ctx F0 m0 w0 w L m (D :: A :: B :: As) := C.perm ((List.Perm.cons A (.swap ..)).trans (.swap ..))
theorem Ctx.ex {ι : Type} {f : ι → Asn} (C : Ctx F0 m0 w0 w L m (Asn.ex f :: As)) : ∃ i, Ctx F0 m0 w0 w L m (f i :: As) := by
  obtain ⟨F, hF, ho⟩ := C.own
  obtain ⟨F1, F2, rfl, hd, ⟨i, hi⟩, h2⟩ := hF
  exact ⟨i, C.hid, C.f0, C.le, C.new, C.loc, _, ⟨F1, F2, rfl, hd, hi, h2⟩, ho⟩
theorem Ctx.exI {ι : Type} {f : ι → Asn} (i : ι) (C : Ctx F0 m0 w0 w L m (f i :: As)) : Ctx F0 m0 w0 w L m (Asn.ex f :: As) :=
  C.sub fun F hF _ => by obtain ⟨F1, F2, rfl, hd, h1, h2⟩ := hF; exact ⟨_, ⟨F1, F2, rfl, hd, ⟨i, h1⟩, h2⟩, fun b hb => hb⟩
theorem Ctx.pr {φ : Prop} (C : Ctx F0 m0 w0 w L m (Asn.pr φ A :: As)) : φ ∧ Ctx F0 m0 w0 w L m (A :: As) := by
  obtain ⟨F, hF, ho⟩ := C.own
  obtain ⟨F1, F2, rfl, hd, ⟨h0, h1⟩, h2⟩ := hF
  exact ⟨h0, C.hid, C.f0, C.le, C.new, C.loc, _, ⟨F1, F2, rfl, hd, h1, h2⟩, ho⟩
theorem Ctx.prI {φ : Prop} (h : φ) (C : Ctx F0 m0 w0 w L m (A :: As)) : Ctx F0 m0 w0 w L m (Asn.pr φ A :: As) :=
  C.sub fun F hF _ => by obtain ⟨F1, F2, rfl, hd, h1, h2⟩ := hF; exact ⟨_, ⟨F1, F2, rfl, hd, ⟨h, h1⟩, h2⟩, fun b hb => hb⟩
theorem Ctx.all (C : Ctx F0 m0 w0 w L m (Asn.all Bs :: As)) : Ctx F0 m0 w0 w L m (Bs ++ As) :=
  C.sub fun F hF _ => by obtain ⟨F1, F2, rfl, hd, h1, h2⟩ := hF; exact ⟨_, Sat.append h1 h2 hd, fun b hb => hb⟩
theorem Ctx.allI (C : Ctx F0 m0 w0 w L m (Bs ++ As)) : Ctx F0 m0 w0 w L m (Asn.all Bs :: As) :=
  C.sub fun F hF _ => by obtain ⟨F1, F2, rfl, hd, h1, h2⟩ := hF.split; exact ⟨_, ⟨F1, F2, rfl, hd, h1, h2⟩, fun b hb => hb⟩
theorem Ctx.memle {m' : Mem} (C : Ctx F0 m0 w0 w L m As) (h : m0.le m') (h' : m'.le m) : Ctx F0 m0 w0 w L m' As := by
  obtain ⟨F, hF, ho⟩ := C.own
  exact ⟨C.hid, C.f0, h, fun a v e => C.new a v (h' a v e), C.loc, F, hF, ho.inF, fun a v e => ho.mem a v (h' a v e)⟩

/-! ### events that leave the owned pieces alone -/
theorem Ctx.size (C : Ctx F0 m0 w0 w L m As) : w0.heap.size ≤ w.heap.size := C.hid.size
theorem Ctx.cell (C : Ctx F0 m0 w0 w L m As) {a : Addr} {v : Value} (h : m a = some v) : w.cell? a = some v := by
  obtain ⟨F, hF, ho⟩ := C.own; exact (ho.mem a v h).1
theorem Ctx.cellL (C : Ctx F0 m0 w0 w L m As) {a : Addr} {v : Value} (h : m a = some v) : a.block ∉ L := by
  obtain ⟨F, hF, ho⟩ := C.own; exact (ho.mem a v h).2.2
theorem Ctx.cells (C : Ctx F0 m0 w0 w L m As) {a : Addr} {vs : List Value} (h : MCells m a vs) : Cells w a vs := fun j v e => C.cell (h j v e)
theorem Ctx.cellsL (C : Ctx F0 m0 w0 w L m As) {a : Addr} {v : Value} {vs : List Value} (h : MCells m a (v :: vs)) : a.block ∉ L := by
  have := C.cellL (h 0 v rfl); rwa [addr_block] at this
theorem hid_trans {F0 F1 : List Nat} {u v x : World} (h : Hid F0 u v) (k : Hid F1 v x) (hF : ∀ b, b ∈ F1 → b ∈ F0 ∨ u.heap.size ≤ b) : Hid F0 u x :=
  ⟨k.os.trans h.os, k.tape.trans h.tape, k.output.trans h.output, Nat.le_trans h.size k.size, Nat.le_trans h.drawn k.drawn, fun b hb hn =>
    (k.block b (Nat.lt_of_lt_of_le hb h.size) (fun hc => by rcases hF b hc with h | h; exact hn h; omega)).trans (h.block b hb hn)⟩
/-- the world is met anew: locals may have come -/
theorem Ctx.hidL {w' : World} {L' : List Nat} (C : Ctx F0 m0 w0 w L m As) (h : Hid L w w') (hn : NewL w0.heap.size L w w' L') : Ctx F0 m0 w0 w' L' m As := by
  obtain ⟨F, hF, ho⟩ := C.own
  have hnF : ∀ b, b ∈ F → w'.heap[b]? = w.heap[b]? := fun b hb => h.block b (ho.inF b hb).1 (ho.inF b hb).2.1
  have hL' : ∀ b, b < w.heap.size → b ∉ L → b ∉ L' := fun b hb hl hc => by rcases (hn b hc).2.2 with h | h; exact hl h; omega
  refine ⟨hid_trans C.hid h (fun b hb => .inr (C.loc b hb).1), C.f0, C.le, C.new, fun b hb => ⟨(hn b hb).2.1, (hn b hb).1⟩, F, hF.frame hnF, fun b hb => ?_, fun a v e => ?_⟩
  · obtain ⟨h1, h2, h3⟩ := ho.inF b hb
    exact ⟨Nat.lt_of_lt_of_le h1 h.size, hL' b h1 h2, h3⟩
  · obtain ⟨h1, h2, h3⟩ := ho.mem a v e
    have hlt := World.block_lt_of_cell? w a h1
    exact ⟨(World.cell?_of_block (h.block _ hlt h3)).trans h1, h2, hL' _ hlt h3⟩
theorem Ctx.hid0 {w' : World} (C : Ctx F0 m0 w0 w L m As) (h : Hid L w w') : Ctx F0 m0 w0 w' [] m As :=
  C.hidL h fun b hb => by cases hb
theorem Ctx.noL (C : Ctx F0 m0 w0 w L m As) : Ctx F0 m0 w0 w [] m As := C.hid0 (Hid.refl _ _)
/-- memory was made, and nothing else -/
theorem Ctx.below {w' : World} (C : Ctx F0 m0 w0 w L m As) (h : Bel w.heap.size w w') : Ctx F0 m0 w0 w' L m As := by
  obtain ⟨F, hF, ho⟩ := C.own
  refine ⟨⟨h.os.trans C.hid.os, h.tape.trans C.hid.tape, h.output.trans C.hid.output, Nat.le_trans C.hid.size h.size, Nat.le_trans C.hid.drawn h.drawn, fun b hb hn => (h.block b (Nat.lt_of_lt_of_le hb C.hid.size)).trans (C.hid.block b hb hn)⟩, C.f0, C.le, C.new,
    fun b hb => ⟨(C.loc b hb).1, Nat.lt_of_lt_of_le (C.loc b hb).2 h.size⟩, F, hF.frame fun b hb => h.block b (ho.inF b hb).1, fun b hb => ?_, fun a v e => ?_⟩
  · obtain ⟨h1, h2, h3⟩ := ho.inF b hb
    exact ⟨Nat.lt_of_lt_of_le h1 h.size, h2, h3⟩
  · obtain ⟨h1, h2, h3⟩ := ho.mem a v e
    exact ⟨(World.cell?_of_block (h.block _ (World.block_lt_of_cell? w a h1))).trans h1, h2, h3⟩
theorem Ctx.kept (C : Ctx F0 m0 w0 w L m As) {w' : World} (h : Bel w.heap.size w w') : Kept L w w' := ⟨h.size, fun b hb => h.block b (C.loc b hb).2⟩
/-- a call that gives V and turns nothing -/
theorem Ctx.gives {P : Program} {f : FuncId} {args : Array Value} {V : Value} {R : Ending → World → Prop} (C : Ctx F0 m0 w0 w L m As) (h : Gives P f args V)
    (k : ∀ w', Kept L w w' → Ctx F0 m0 w0 w' L m As → R (.returned V) w') : CallX P f args w R :=
  h.call fun w' hb => k w' (C.kept hb) (C.below hb)
/-- a new block, owned -/
theorem alloc_hid (w : World) (o : Obj) : Hid [] w (w.alloc o) := ⟨rfl, rfl, rfl, by simp, Nat.le_refl _, fun b hb _ => heap_alloc_old w o hb⟩
theorem Ctx.newO (C : Ctx F0 m0 w0 w L m As) (o : Obj) (hA : A.p (w.alloc o) [w.heap.size]) : Ctx F0 m0 w0 (w.alloc o) L m (A :: As) := by
  have hb := C.below (w' := w.alloc o) ⟨rfl, rfl, rfl, by simp, Nat.le_refl _, fun b hb => heap_alloc_old w o hb⟩
  obtain ⟨F, hF, ho⟩ := hb.own
  obtain ⟨F', hF', ho'⟩ := C.own
  have hfr : Sat (w.alloc o) As F' := hF'.frame fun b hb => heap_alloc_old w o (ho'.inF b hb).1
  refine ⟨hb.hid, hb.f0, hb.le, hb.new, hb.loc, [w.heap.size] ++ F', ⟨[w.heap.size], F', rfl, fun b hb hc => ?_, hA, hfr⟩, fun b hb => ?_, fun a v e => ?_⟩
  · simp only [List.mem_singleton] at hb; subst hb
    exact absurd (ho'.inF _ hc).1 (Nat.lt_irrefl _)
  · rcases List.mem_append.1 hb with hb | hb
    · simp only [List.mem_singleton] at hb; subst hb
      exact ⟨by simp, fun hc => absurd (C.loc _ hc).2 (Nat.lt_irrefl _), .inr C.hid.size⟩
    · obtain ⟨h1, h2, h3⟩ := ho'.inF b hb
      exact ⟨by simp; omega, h2, h3⟩
  · obtain ⟨h1, h2, h3⟩ := ho'.mem a v e
    have hlt := World.block_lt_of_cell? w a h1
    refine ⟨(World.cell?_of_block (heap_alloc_old w o hlt)).trans h1, ?_, h3⟩
    simp only [List.mem_append, List.mem_singleton, not_or]
    exact ⟨by omega, h2⟩
theorem Ctx.alloc (C : Ctx F0 m0 w0 w L m As) (cs : List Value) (ty : TypeId) : Ctx F0 m0 w0 (w.alloc (.cells cs.toArray ty)) L m (blk w.heap.size cs ty :: As) :=
  C.newO _ ⟨rfl, heap_alloc_new w _⟩
theorem Ctx.drew (C : Ctx F0 m0 w0 w L m As) : Ctx F0 m0 w0 w.drew L m As :=
  C.below ⟨rfl, rfl, rfl, Nat.le_refl _, Nat.le_succ _, fun _ _ => rfl⟩

/-! ### an owned block -/
theorem Ctx.blkAt {b : Nat} {cs : List Value} {ty : TypeId} (C : Ctx F0 m0 w0 w L m (blk b cs ty :: As)) : w.heap[b]? = some (.cells cs.toArray ty (0, 0)) ∧ b ∉ L := by
  obtain ⟨F, hF, ho⟩ := C.own
  obtain ⟨F1, F2, rfl, hd, ⟨rfl, h1⟩, h2⟩ := hF
  exact ⟨h1, (ho.inF b (by simp)).2.1⟩
theorem Ctx.objAt {b : Nat} {o : Obj} (C : Ctx F0 m0 w0 w L m (objB b o :: As)) : w.heap[b]? = some o ∧ b ∉ L := by
  obtain ⟨F, hF, ho⟩ := C.own
  obtain ⟨F1, F2, rfl, hd, ⟨rfl, h1⟩, h2⟩ := hF
  exact ⟨h1, (ho.inF b (by simp)).2.1⟩
theorem Ctx.mapAt {b : Nat} {es : List MapEntry} {k : Nat} (C : Ctx F0 m0 w0 w L m (mapB b es k :: As)) : w.heap[b]? = some (.map es.toArray k) ∧ b ∉ L := by
  obtain ⟨F, hF, ho⟩ := C.own
  obtain ⟨F1, F2, rfl, hd, ⟨rfl, h1⟩, h2⟩ := hF
  exact ⟨h1, (ho.inF b (by simp)).2.1⟩
theorem Ctx.blkCell {b : Nat} {cs : List Value} {ty : TypeId} (C : Ctx F0 m0 w0 w L m (blk b cs ty :: As)) {j : Nat} {v : Value} (h : cs[j]? = some v) : w.cell? ⟨b, j, none⟩ = some v := by
  rw [cellsAt_of_block C.blkAt.1]; simpa using h
theorem Ctx.blkCells {b : Nat} {cs : List Value} {ty : TypeId} (C : Ctx F0 m0 w0 w L m (blk b cs ty :: As)) {o : Nat} {vs : List Value} (h : ∀ j v, vs[j]? = some v → cs[o + j]? = some v) : Cells w ⟨b, o, none⟩ vs := fun j v e => by
  rw [Addr.add_mid]; exact C.blkCell (h j v e)
/-- the piece at the head is turned in place: its block's content -/
theorem Ctx.turn {b : Nat} {w' : World} (C : Ctx F0 m0 w0 w L m (A :: As)) (hA : ∀ F, A.p w F → F = [b]) (hh : Hid [b] w w') (hB : B.p w' [b]) :
    Ctx F0 m0 w0 w' L m (B :: As) ∧ Kept L w w' := by
  obtain ⟨F, hF, ho⟩ := C.own
  obtain ⟨F1, F2, rfl, hd, h1, h2⟩ := hF
  have := hA _ h1; subst this
  have hb := ho.inF b (by simp)
  refine ⟨⟨hid_trans C.hid hh (fun x hx => by simp only [List.mem_singleton] at hx; subst hx; exact hb.2.2), C.f0, C.le, C.new, fun x hx => ⟨(C.loc x hx).1, Nat.lt_of_lt_of_le (C.loc x hx).2 hh.size⟩, [b] ++ F2,
    ⟨[b], F2, rfl, hd, hB, h2.frame fun x hx => hh.block x (ho.inF x (by simp [hx])).1 (fun hc => by simp only [List.mem_singleton] at hc; subst hc; exact hd x (by simp) hx)⟩, fun x hx => ?_, fun a v e => ?_⟩, hh.size, fun x hx => hh.block x (C.loc x hx).2 (fun hc => ?_)⟩
  · obtain ⟨h1, h2, h3⟩ := ho.inF x hx
    exact ⟨Nat.lt_of_lt_of_le h1 hh.size, h2, h3⟩
  · obtain ⟨h1, h2, h3⟩ := ho.mem a v e
    refine ⟨(World.cell?_of_block (hh.block _ (World.block_lt_of_cell? w a h1) (fun hc => h2 ?_))).trans h1, h2, h3⟩
    simp only [List.mem_singleton] at hc; simp [hc]
  · simp only [List.mem_singleton] at hc; subst hc; exact hb.2.1 hx
theorem setCells_splice (w : World) (b o : Nat) (cs vs : List Value) (ty : TypeId) (fr : Nat × Nat) (h : w.heap[b]? = some (.cells cs.toArray ty fr)) (hl : o + vs.length ≤ cs.length) :
    (w.setCells b o vs).heap[b]? = some (.cells (splice cs o vs).toArray ty fr) := by
  induction vs generalizing o w cs with
  | nil => simpa [World.setCells, splice] using h
  | cons v vs ih =>
    have h1 : (w.setCell ⟨b, o, none⟩ v).heap[b]? = some (.cells (cs.set o v).toArray ty fr) := by
      have hlt := (Array.getElem?_eq_some_iff.1 h).1
      have he := (Array.getElem?_eq_some_iff.1 h).2
      simp only [World.setCell, Array.getElem?_modify]
      simp [h]
    have := ih (w.setCell ⟨b, o, none⟩ v) (o + 1) (cs.set o v) h1 (by simp at hl ⊢; omega)
    simp only [World.setCells]
    rw [this]
    congr 2
    simp only [splice, List.length_cons]
    have ho : o < cs.length := by simp at hl; omega
    have e1 : (cs.set o v).take (o + 1) = cs.take o ++ [v] := by
      rw [List.take_succ_eq_append_getElem (by simpa using ho)]; simp [List.take_set]; exact List.set_eq_of_length_le (by simp; omega)
    rw [e1, List.drop_set]
    rw [if_pos (by omega)]
    simp [Nat.add_assoc, Nat.add_comm 1]
theorem hid_one {b : Nat} {u v x : World} (h : Hid [b] u v) (k : Hid [b] v x) : Hid [b] u x := hid_trans h k fun _ hb => .inl hb
theorem setCell_hid (w : World) (b o : Nat) (v : Value) : Hid [b] w (w.setCell ⟨b, o, none⟩ v) :=
  ⟨rfl, rfl, rfl, by simp [World.setCell], Nat.le_refl _, fun x hx hn => by
    have : b ≠ x := fun e => hn (by simp [e])
    simp only [World.setCell, Array.getElem?_modify]
    rw [if_neg this]⟩
theorem setCells_hid (w : World) (b o : Nat) (vs : List Value) : Hid [b] w (w.setCells b o vs) := by
  induction vs generalizing o w with
  | nil => exact Hid.refl _ _
  | cons v vs ih => exact hid_one (setCell_hid w b o v) (ih _ _)
theorem Ctx.there {b : Nat} {cs : List Value} {ty : TypeId} (C : Ctx F0 m0 w0 w L m (blk b cs ty :: As)) (o n : Nat) (h : o + n ≤ cs.length) : World.there w b o n := fun j hj => by
  have := C.blkAt.1
  exact ⟨by rw [cellsAt_of_block this]; simp; omega, by simp [World.frozen?, this]⟩
/-- a store into an owned block -/
theorem Ctx.store {b : Nat} {cs : List Value} {ty : TypeId} (C : Ctx F0 m0 w0 w L m (blk b cs ty :: As)) (o : Nat) (vs : List Value) (h : o + vs.length ≤ cs.length) :
    Ctx F0 m0 w0 (w.setCells b o vs) L m (blk b (splice cs o vs) ty :: As) :=
  (C.turn (b := b) (B := blk b (splice cs o vs) ty) (fun F hF => hF.1) (setCells_hid w b o vs) ⟨rfl, setCells_splice w b o cs vs ty (0, 0) C.blkAt.1 h⟩).1
/-- from now on a block is only read -/
theorem Ctx.share {b : Nat} {cs : List Value} {ty : TypeId} (C : Ctx F0 m0 w0 w L m (blk b cs ty :: As)) : Ctx F0 m0 w0 w L (m.plus b cs) As := by
  obtain ⟨F, hF, ho⟩ := C.own
  obtain ⟨F1, F2, rfl, hd, ⟨rfl, h1⟩, h2⟩ := hF
  have hbb := ho.inF b (by simp)
  refine ⟨C.hid, C.f0, fun a v e => ?_, fun a v e => ?_, C.loc, F2, h2, fun x hx => ho.inF x (by simp [hx]), fun a v e => ?_⟩
  · have := C.le a v e
    simp only [Mem.plus]
    rw [if_neg (fun hc => (ho.mem a v this).2.1 (by simp [hc]))]
    exact this
  · simp only [Mem.plus] at e
    split at e
    · rename_i hc; rw [hc]; exact .inr hbb.2.2
    · exact C.new a v e
  · simp only [Mem.plus] at e
    split at e
    · rename_i hc
      split at e
      · cases e
      · rename_i hs
        rw [hc]
        refine ⟨?_, hd b (by simp), hbb.2.1⟩
        simp only [World.cell?, hc, h1]
        rw [if_neg hs]
        simpa using e
    · obtain ⟨g1, g2, g3⟩ := ho.mem a v e
      exact ⟨g1, fun hc => g2 (by simp [hc]), g3⟩
theorem Ctx.share_le {b : Nat} {cs : List Value} {ty : TypeId} (C : Ctx F0 m0 w0 w L m (blk b cs ty :: As)) : m.le (m.plus b cs) := fun a v e => by
  obtain ⟨F, hF, ho⟩ := C.own
  obtain ⟨F1, F2, rfl, hd, ⟨rfl, h1⟩, h2⟩ := hF
  simp only [Mem.plus]
  rw [if_neg (fun hc => (ho.mem a v e).2.1 (by simp [hc]))]
  exact e
theorem Mem.plus_cells (m : Mem) (b : Nat) (cs : List Value) (o : Nat) (vs : List Value) (h : ∀ j v, vs[j]? = some v → cs[o + j]? = some v) : MCells (m.plus b cs) ⟨b, o, none⟩ vs := fun j v e => by
  rw [Addr.add_mid]; simp [Mem.plus, h j v e]
/-- the end of a walk, or of a round -/
theorem Ctx.at_ (C : Ctx [] m0 w0 w L m As) : Below w0.heap.size w0 w := C.hid.below

/-! ### contracts -/
/-- a contract: from the pieces As, and where pre can be read, the function gives r i and leaves the pieces Bs i; what can be read may have grown -/
def Ctr (P : Program) (f : FuncId) (args : Array Value) (pre : Mem → Prop) (As : List Asn) {ι : Type} (r : ι → Value) (post : ι → Mem → Prop) (Bs : ι → List Asn) : Prop :=
  ∀ w F m, (∀ b, b ∈ F → b < w.heap.size) → (∀ a v, m a = some v → w.cell? a = some v ∧ a.block ∉ F) → Sat w As F → pre m →
    Calls P f args w fun e w' => ∃ i m' L, e = .returned (r i) ∧ post i m' ∧ Ctx F m w w' L m' (Bs i)
theorem Ctr.mk {P : Program} {f : FuncId} {args : Array Value} {pre : Mem → Prop} {As : List Asn} {ι : Type} {r : ι → Value} {post : ι → Mem → Prop} {Bs : ι → List Asn}
    (h : ∀ w F m, Ctx F m w w [] m As → pre m → Calls P f args w fun e w' => ∃ i m' L, e = .returned (r i) ∧ post i m' ∧ Ctx F m w w' L m' (Bs i)) : Ctr P f args pre As r post Bs :=
  fun w F m hf hm hs hp => h w F m (Ctx.start hs hf hm) hp
/-- a call by its contract; the rest stands -/
theorem Ctr.call {P : Program} {f : FuncId} {args : Array Value} {pre : Mem → Prop} {Cs : List Asn} {ι : Type} {r : ι → Value} {post : ι → Mem → Prop} {Bs : ι → List Asn} {R : Ending → World → Prop}
    (s : Ctr P f args pre Cs r post Bs) (C : Ctx F0 m0 w0 w L m (Cs ++ As)) (hp : pre m)
    (k : ∀ i m' w', Kept L w w' → m.le m' → post i m' → Ctx F0 m0 w0 w' L m' (Bs i ++ As) → R (.returned (r i)) w') : CallX P f args w R := by
  obtain ⟨F, hF, ho⟩ := C.own
  obtain ⟨F1, F2, rfl, hd, h1, h2⟩ := hF.split
  refine ⟨(s w F1 m (fun b hb => (ho.inF b (by simp [hb])).1) (fun a v e => ⟨(ho.mem a v e).1, fun hc => (ho.mem a v e).2.1 (by simp [hc])⟩) h1 hp).mono ?_⟩
  rintro e w' ⟨i, m', L', rfl, hpost, C'⟩
  obtain ⟨G, hG, hg⟩ := C'.own
  have hLk : ∀ b, b ∈ L → w'.heap[b]? = w.heap[b]? := fun b hb => C'.hid.block b (C.loc b hb).2 (fun hc => (ho.inF b (by simp [hc])).2.1 hb)
  have hF2 : ∀ b, b ∈ F2 → w'.heap[b]? = w.heap[b]? := fun b hb => C'.hid.block b (ho.inF b (by simp [hb])).1 (fun hc => hd b hc hb)
  have hGin : ∀ b, b ∈ G → b ∈ F1 ∨ w.heap.size ≤ b := fun b hb => (hg.inF b hb).2.2
  refine k i m' w' ⟨C'.hid.size, hLk⟩ C'.le hpost ⟨hid_trans C.hid C'.hid (fun b hb => (ho.inF b (by simp [hb])).2.2), C.f0, C.le.le_trans C'.le, fun a v e => ?_, fun b hb => ⟨(C.loc b hb).1, Nat.lt_of_lt_of_le (C.loc b hb).2 C'.hid.size⟩,
    G ++ F2, Sat.append hG (h2.frame hF2) (fun b hb hc => ?_), fun b hb => ?_, fun a v e => ?_⟩
  · rcases C'.new a v e with h | h | h
    · exact C.new a v h
    · exact .inr (ho.inF _ (by simp [h])).2.2
    · exact .inr (.inr (Nat.le_trans C.hid.size h))
  · rcases hGin b hb with h | h
    · exact hd b h hc
    · have := (ho.inF b (by simp [hc])).1; omega
  · rcases List.mem_append.1 hb with hb | hb
    · refine ⟨(hg.inF b hb).1, fun hc => ?_, ?_⟩
      · rcases hGin b hb with h | h
        · exact (ho.inF b (by simp [h])).2.1 hc
        · have := (C.loc b hc).2; omega
      · rcases hGin b hb with h | h
        · exact (ho.inF b (by simp [h])).2.2
        · exact .inr (Nat.le_trans C.hid.size h)
    · obtain ⟨q1, q2, q3⟩ := ho.inF b (by simp [hb])
      exact ⟨Nat.lt_of_lt_of_le q1 C'.hid.size, q2, q3⟩
  · obtain ⟨q1, q2, q3⟩ := hg.mem a v e
    have key : a.block ∉ F2 ∧ a.block ∉ L := by
      rcases C'.new a v e with h | h | h
      · exact ⟨fun hc => (ho.mem a v h).2.1 (by simp [hc]), (ho.mem a v h).2.2⟩
      · exact ⟨hd _ h, (ho.inF _ (by simp [h])).2.1⟩
      · exact ⟨fun hc => by have := (ho.inF _ (by simp [hc] : a.block ∈ F1 ++ F2)).1; omega, fun hc => by have := (C.loc _ hc).2; omega⟩
    refine ⟨q1, ?_, key.2⟩
    simp only [List.mem_append, not_or]
    exact ⟨q2, key.1⟩
end
end Go.X
