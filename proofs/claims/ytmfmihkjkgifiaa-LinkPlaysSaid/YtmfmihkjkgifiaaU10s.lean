import Derived.Test.YtmfmihkjkgifiaaU10r
import Derived.Test.YtmfmihkjkgifiaaV10c
set_option linter.unusedVariables false
set_option linter.unusedSimpArgs false
set_option maxRecDepth 10000
namespace Go.Proofs
open Go X RowKit
/-! ### alike but for places -/
def Br.er (b : Br) : Br := ⟨b.bs, none, 0⟩
def Sr.er (s : Sr) : Sr := { s with b := s.b.er }
def eer (e : Int × Br) : Int × Br := (e.1, e.2.er)
def Lk.er (x : Lk) : Lk := { x with W := x.W.map Sr.er, E := x.E.map eer }
theorem Br.er_bs {a b : Br} (h : a.bs = b.bs) : a.er = b.er := by rw [Br.er, Br.er, h]
theorem sendE_er (x : Lk) : sendE x.er = sendE x := by simp [sendE, Lk.er]
theorem sent_er (x : Lk) (nb : Br) : (x.sent nb).er = x.er.sent nb.er := by
  unfold Lk.sent
  rw [sendE_er]
  split
  · simp [Lk.er, Sr.er]
  · rfl
theorem ackN_er (a : Int) : ∀ W : List Sr, ackN a (W.map Sr.er) = ackN a W
  | [] => rfl
  | s :: W => by simp only [List.map_cons, ackN, ackN_er a W]; rfl
theorem acked_er (x : Lk) (a : Int) : (x.acked a).er = x.er.acked a := by
  unfold Lk.acked
  have h1 : x.er.next = x.next := rfl
  have h2 : x.er.W = x.W.map Sr.er := rfl
  rw [h1]
  split
  · rfl
  · simp [Lk.er, ackN_er]
theorem fnd_er (k : Int) : ∀ E : List (Int × Br), fnd k (E.map eer) = (fnd k E).map Br.er
  | [] => rfl
  | (j, u) :: E => by
    simp only [List.map_cons, eer, fnd]
    split
    · rfl
    · exact fnd_er k E
theorem mdel_er (k : Int) : ∀ E : List (Int × Br), X.mdel k (E.map eer) = (X.mdel k E).map eer
  | [] => rfl
  | (j, u) :: E => by
    simp only [List.map_cons, eer, X.mdel]
    split
    · rfl
    · simp [eer, mdel_er k E]
theorem mput_er (k : Int) (v : Br) : ∀ E : List (Int × Br), X.mput k v.er (E.map eer) = (X.mput k v E).map eer
  | [] => rfl
  | (j, u) :: E => by
    simp only [List.map_cons, eer, X.mput]
    split
    · simp [eer]
    · simp [eer, mput_er k v E]
theorem comeF_er : ∀ (n : Nat) (want : Int) (E : List (Int × Br)), comeF n want (E.map eer) = ((comeF n want E).1.map Br.er, (comeF n want E).2.1, (comeF n want E).2.2.map eer)
  | 0, want, E => rfl
  | n + 1, want, E => by
    simp only [comeF, fnd_er]
    cases hf : fnd want E with
    | none => rfl
    | some v => simp [mdel_er, comeF_er n]
theorem owes_er (x : Lk) (a : Int) : (x.owes a).er = x.er.owes a := by
  have := acked_er x a
  simp only [Lk.owes, ← this]; rfl
theorem comes_er (x : Lk) : x.er.comes = x.comes.map Br.er := by
  unfold Lk.comes
  have h2 : x.er.E = x.E.map eer := rfl
  have h3 : x.er.want = x.want := rfl
  rw [h2, h3, List.length_map, comeF_er]
theorem came_er (x : Lk) : x.er.came = x.came.er := by
  unfold Lk.came
  have h2 : x.er.E = x.E.map eer := rfl
  have h3 : x.er.want = x.want := rfl
  rw [h2, h3, List.length_map, comeF_er]; rfl
theorem keeps_er (x : Lk) (p : Pk) : x.er.keeps p = x.keeps p := by
  have h2 : x.er.E = x.E.map eer := rfl
  have h3 : x.er.want = x.want := rfl
  unfold Lk.keeps
  rw [h2, h3, fnd_er, Option.isNone_map]
theorem heard_er (x : Lk) (p : Pk) (nb : Br) : x.er.heard p nb.er = ((x.heard p nb).1.map Br.er, (x.heard p nb).2.er) := by
  have hm : x.er.mine p = x.mine p := rfl
  have hw : x.er.want = x.want := rfl
  have ho : x.er.owes p.ack = (x.owes p.ack).er := (owes_er x p.ack).symm
  have ha : x.er.acked p.ack = (x.acked p.ack).er := (acked_er x p.ack).symm
  unfold Lk.heard
  rw [hm, hw, ho, ha, comes_er, came_er, keeps_er]
  have hE : (x.owes p.ack).er.E = (x.owes p.ack).E.map eer := rfl
  rw [hE, mput_er]
  split
  · rfl
  split
  · rfl
  split
  · rfl
  split <;> rfl
theorem due_er (again now : Int) (s : Sr) : dueB again now s.er = dueB again now s := rfl
theorem dues_er (x : Lk) (now : Int) (i : Nat) : x.er.dues now i = x.dues now i := by
  have h2 : x.er.W = x.W.map Sr.er := rfl
  have h3 : x.er.again = x.again := rfl
  unfold Lk.dues
  rw [h2, h3, ← List.map_take, List.filter_map, List.map_map]
  have h4 : (dueB x.again now) ∘ Sr.er = dueB x.again now := rfl
  rw [h4]
  rfl
theorem outs_er (x : Lk) (now : Int) : x.er.outs now = x.outs now := by
  unfold Lk.outs
  rw [dues_er]; rfl
theorem tell_er (again now : Int) (s : Sr) : tellB again now s.er = (tellB again now s).er := by
  unfold tellB; rw [due_er]; split <;> rfl
theorem told_er (x : Lk) (now : Int) : (x.told now).er = x.er.told now := by
  have h2 : x.er.W = x.W.map Sr.er := rfl
  have h3 : x.er.again = x.again := rfl
  have h4 : Wi (tellB x.again now) (x.W.map Sr.er) 8 = (Wi (tellB x.again now) x.W 8).map Sr.er := by
    unfold Wi
    rw [← List.map_take, ← List.map_drop, List.map_map, List.map_append, List.map_map]
    congr 1
    exact List.map_congr_left fun s _ => tell_er _ _ s
  unfold Lk.told
  rw [h2, h3, h4]; rfl
/-- the program's link and the document's -/
structure Good (x r : Lk) : Prop where
  rel : x.er = r.er
  inv : InvE r
  w32 : x.W.length ≤ 32
theorem Good.W {x r : Lk} (h : Good x r) : r.W.length = x.W.length := by
  have := congrArg (fun y => y.W.length) h.rel
  simpa [Lk.er] using this.symm
theorem Good.E {x r : Lk} (h : Good x r) : x.E.length ≤ 8 := by
  have := congrArg (fun y => y.E.length) h.rel
  have h2 := h.inv.len
  simp [Lk.er] at this; omega
theorem Good.want {x r : Lk} (h : Good x r) : x.want = r.want := by have h2 := congrArg Lk.want h.rel; exact h2
theorem Good.sendE {x r : Lk} (h : Good x r) : sendE x = sendE r := by rw [← sendE_er x, ← sendE_er r, h.rel]
theorem Good.sent {x r : Lk} (h : Good x r) {n n' : Br} (hn : n.bs = n'.bs) : Good (x.sent n) (r.sent n') := by
  refine ⟨by rw [sent_er, sent_er, h.rel, Br.er_bs hn], ?_, ?_⟩
  · have : (r.sent n').want = r.want ∧ (r.sent n').E = r.E := by unfold Lk.sent; split <;> exact ⟨rfl, rfl⟩
    exact ⟨by rw [this.1]; exact h.inv.w0, by rw [this.1]; exact h.inv.w1, by rw [this.1, this.2]; exact h.inv.win, by rw [this.2]; exact h.inv.nd⟩
  · have hw := h.w32
    unfold Lk.sent
    split
    · rename_i hE
      have : x.W.length < 32 := by
        unfold Go.Proofs.sendE at hE
        by_cases h1 : x.next = 18446744073709551615
        · rw [if_pos h1] at hE; cases hE
        · rw [if_neg h1] at hE
          by_cases h2 : 32 ≤ x.W.length
          · rw [if_pos h2] at hE; cases hE
          · omega
      simp; omega
    · exact hw
theorem Good.told {x r : Lk} (h : Good x r) (now : Int) : Good (x.told now) (r.told now) :=
  ⟨by rw [told_er, told_er, h.rel], ⟨h.inv.w0, h.inv.w1, h.inv.win, h.inv.nd⟩, by rw [show (x.told now).W.length = x.W.length from Wi_len ..]; exact h.w32⟩
theorem Good.outs {x r : Lk} (h : Good x r) (now : Int) : x.outs now = r.outs now := by rw [← outs_er x, ← outs_er r, h.rel]
theorem heard_W (x : Lk) (p : Pk) (nb : Br) : (x.heard p nb).2.W.length ≤ x.W.length := by
  have ha : (x.acked p.ack).W.length ≤ x.W.length := by
    unfold Lk.acked; split
    · exact Nat.le_refl _
    · simp
  unfold Lk.heard
  split
  · exact Nat.le_refl _
  split
  · exact ha
  split
  · exact ha
  split
  · exact ha
  · exact ha
theorem Good.heard {x r : Lk} (h : Good x r) (p : Pk) {n n' : Br} (hn : n.bs = n'.bs) (h0 : 0 ≤ p.seq) (h1 : p.seq < 18446744073709551616) :
    Good (x.heard p n).2 (r.heard p n').2 ∧ (x.heard p n).1.map Br.bs = (r.heard p n').1.map Br.bs := by
  have e1 := heard_er x p n
  have e2 := heard_er r p n'
  rw [h.rel, Br.er_bs hn, e2, Prod.mk.injEq] at e1
  refine ⟨⟨e1.2.symm, h.inv.heard p n' h0 h1, by have := heard_W x p n; have := h.w32; omega⟩, ?_⟩
  have := congrArg (List.map Br.bs) e1.1
  rw [List.map_map, List.map_map] at this
  exact this.symm
theorem Good.start (mn ml pn pl first again : Int) (h0 : 0 ≤ first) (h1 : first < 18446744073709551616) : Good (lk0 mn ml pn pl first again) (lk0 mn ml pn pl first again) :=
  ⟨rfl, ⟨h0, h1, by simp, by simp⟩, by simp⟩
/-! ### held against each other -/
theorem er_row {p q : Pk} (h : p.er = q.er) : p.fn = q.fn ∧ p.fl = q.fl ∧ p.tn = q.tn ∧ p.tl = q.tl ∧ p.seq = q.seq ∧ p.ack = q.ack ∧ p.has = q.has ∧ p.b.bs = q.b.bs := by
  simp only [Pk.er, Pa.mk.injEq] at h; exact h
theorem c_packets (a b : List Pk) (pa pb : Option Addr × Nat) (hab : a.map Pk.er = b.map Pk.er) (hla : a.length ≤ 1000000) :
    Ctr Try.prog 15 #[slV pa a.length, slV pb b.length] (fun m => (∀ p ∈ a, BrM m p.b) ∧ ∀ p ∈ b, BrM m p.b) [pksA pa.1 pa.2 a, rpksA pb.1 pb.2 b] (fun _ : Unit => .bool true) (fun _ _ => True) (fun _ => [pksA pa.1 pa.2 a, rpksA pb.1 pb.2 b]) := by
  obtain ⟨pa1, pa2⟩ := pa
  obtain ⟨pb1, pb2⟩ := pb
  refine Ctr.mk fun w F m C hp => x_gemotlaw10_packets _ _ _ _ _ _ w _ ?_
  obtain ⟨ha, hb⟩ := hp
  have hl : a.length = b.length := by simpa using congrArg List.length hab
  rw [if_neg (by rw [hl]; simp)]
  refine ⟨fun n w' L' => ∃ (j : Nat) (m' : Mem), n = j ∧ j ≤ a.length ∧ m.le m' ∧ Ctx F m w w' L' m' [pksA pa1 pa2 a, rpksA pb1 pb2 b], fun n _ => (a.length - n).toNat, ⟨0, m, rfl, by omega, Mem.le_refl _, C⟩, ?_⟩
  rintro n w4 L5 _ ⟨j, m', rfl, hj, hm', D⟩
  by_cases h1 : j < a.length
  · rw [if_pos (by simpa using h1)]
    have h1b : j < b.length := by omega
    have hrb : (b.flatMap Pk.row).length = b.length * 8 := flat_len pk_len _
    have hra : (a.flatMap Pk.row).length = a.length * 8 := flat_len pk_len _
    have D := D.noL
    obtain ⟨qb, rfl⟩ := slice_some D.swap (by intro h; rw [h] at hrb; simp at hrb; omega)
    have hcb := cells_elem pk_len (D.swap.slCells.1 qb rfl).1 j h1b
    refine ⟨by omega, by omega, ?_⟩
    rw [onSome_some]
    refine ⟨_, _, _, _, _, _, _, _, _, _, hcb, ?_⟩
    refine (c_Packet b[j]).call (Cs := []) D ((hb _ (List.getElem_mem h1b)).mono hm') fun nb m2 w18 hk hm2 hnb D => ⟨_, _, _, _, _, _, _, _, _, _, rfl, hk.size, by omega, by simpa using h1, ?_⟩
    obtain ⟨qa, rfl⟩ := slice_some D (by intro h; rw [h] at hra; simp at hra; omega)
    have hca := cells_elem pk_len (D.slCells.1 qa rfl).1 j h1
    rw [onSome_some]
    refine ⟨_, _, _, _, _, _, _, _, _, _, hca, ?_⟩
    have he : a[j].er = b[j].er := by
      have := congrArg (fun l => l[j]?) hab
      simpa [h1, h1b] using this
    obtain ⟨e1, e2, e3, e4, e5, e6, e7, e8⟩ := er_row he
    rw [if_pos (by rw [e1, e2, e3, e4, e5, e6, e7]; simp)]
    intro w41 L42 h41 g41
    replace D := D.hidL h41 g41
    refine ⟨_, w41, run_body D hnb.2, kept_refl _ _, _, w41, run_body D (((ha _ (List.getElem_mem h1)).mono hm').mono hm2), kept_refl _ _, ?_⟩
    rw [if_neg (by rw [toBA_beq]; simp [hnb.1, e8])]
    have e : IntKind.wrap .i64 ((j : Int) + 1) = ((j + 1 : Nat) : Int) := by rw [w_i64 (by omega) (by omega)]; omega
    rw [e]
    exact ⟨⟨j + 1, m2, rfl, h1, hm'.le_trans hm2, D⟩, Nat.le_of_eq (by show ((a.length : Int) - ((j + 1 : Nat) : Int)).toNat + 1 = ((a.length : Int) - (j : Int)).toNat; omega)⟩
  · rw [if_neg (by simpa using h1)]
    exact Ctr.ret (m' := m') () rfl trivial D
theorem c_bodies (a b : List Br) (pa pb : Option Addr × Nat) (hab : a.map Br.bs = b.map Br.bs) (hla : a.length ≤ 1000000) :
    Ctr Try.prog 18 #[slV pa a.length, slV pb b.length] (fun m => (∀ d ∈ a, BrM m d) ∧ ∀ d ∈ b, BrM m d) [bodsA pa.1 pa.2 a, bodsA pb.1 pb.2 b] (fun _ : Unit => .bool true) (fun _ _ => True) (fun _ => [bodsA pa.1 pa.2 a, bodsA pb.1 pb.2 b]) := by
  obtain ⟨pa1, pa2⟩ := pa
  obtain ⟨pb1, pb2⟩ := pb
  refine Ctr.mk fun w F m C hp => x_gemotlaw10_bodies _ _ _ _ _ _ w _ ?_
  obtain ⟨ha, hb⟩ := hp
  have hl : a.length = b.length := by simpa using congrArg List.length hab
  rw [if_neg (by rw [hl]; simp)]
  refine ⟨fun n w' L' => ∃ (j : Nat), n = j ∧ j ≤ a.length ∧ Ctx F m w w' [] m [bodsA pa1 pa2 a, bodsA pb1 pb2 b], fun n _ => (a.length - n).toNat, ⟨0, rfl, by omega, C⟩, ?_⟩
  rintro n w4 L5 _ ⟨j, rfl, hj, D⟩
  by_cases h1 : j < a.length
  · rw [if_pos (by simpa using h1)]
    have h1b : j < b.length := by omega
    obtain ⟨qa, rfl⟩ := slice_some D (body_ne (by omega))
    obtain ⟨qb, rfl⟩ := slice_some D.swap (body_ne (by omega))
    have ea : ∀ i u, [(a[j]).V][i]? = some u → (a.map Br.V)[j + i]? = some u := fun i u h => by cases i with
      | zero => simpa [h1] using h
      | succ i => simp at h
    have eb : ∀ i u, [(b[j]).V][i]? = some u → (b.map Br.V)[j + i]? = some u := fun i u h => by cases i with
      | zero => simpa [h1b] using h
      | succ i => simp at h
    have hf : ∀ {w'}, Ctx F m w w' [] m [bodsA (some qa) pa2 a, bodsA (some qb) pb2 b] → FactsW [(qa.add j, [(a[j]).V]), (qb.add j, [(b[j]).V])] w' [] := fun D => by
      exact Ctx.slFact D j _ [] ea (Ctx.slFact D.swap j _ [] eb (facts_nil _ _))
    have he : a[j].bs = b[j].bs := by
      have := congrArg (fun l => l[j]?) hab
      simpa [h1, h1b] using this
    have e : IntKind.wrap .i64 ((j : Int) + 1) = ((j + 1 : Nat) : Int) := by rw [w_i64 (by omega) (by omega)]; omega
    have hma := ha _ (List.getElem_mem h1)
    have hmb := hb _ (List.getElem_mem h1b)
    refine ⟨_, hf D, by omega, by simpa using h1, ?_⟩
    rw [onSome_some]
    refine ⟨(a[j]).q, (a[j]).bs.length, (a[j]).c, by simp, by omega, by omega, ?_⟩
    rw [onSome_some]
    refine ⟨(b[j]).q, (b[j]).bs.length, (b[j]).c, by simp, fun w15 h15 => ?_, fun w20 h20 => ?_⟩
    · have D1 := D.hid0 h15
      refine ⟨_, w15, run_body D1 hma, Nat.le_refl _, hf D1, _, w15, run_body D1 hmb, Nat.le_refl _, hf D1, ?_⟩
      rw [if_neg (by rw [toBA_beq]; simp [he]), e]
      exact ⟨⟨j + 1, rfl, h1, D1⟩, Nat.le_of_eq (by show ((a.length : Int) - ((j + 1 : Nat) : Int)).toNat + 1 = ((a.length : Int) - (j : Int)).toNat; omega)⟩
    · have D1 := D.hid0 h20
      refine ⟨_, w20, run_body D1 hmb, Nat.le_refl _, hf D1, _, w20, run_body D1 hma, Nat.le_refl _, hf D1, ?_⟩
      rw [if_neg (by rw [toBA_beq]; simp [he]), e]
      exact ⟨⟨j + 1, rfl, h1, D1⟩, Nat.le_of_eq (by show ((a.length : Int) - ((j + 1 : Nat) : Int)).toNat + 1 = ((a.length : Int) - (j : Int)).toNat; omega)⟩
  · rw [if_neg (by simpa using h1)]
    exact Ctr.ret (m' := m) (L := []) () rfl trivial D
/-! ### acts -/
structure Al where (kd at_ : Int) (b : Br) (p : Pk)
@[reducible] def Al.row (a : Al) : List Value := [.int .i64 a.kd, .int .i64 a.at_, a.b.V, .int .u8 a.p.fn, .int .u16 a.p.fl, .int .u8 a.p.tn, .int .u16 a.p.tl, .int .u64 a.p.seq, .int .u64 a.p.ack, .bool a.p.has, a.p.b.V]
theorem al_len (a : Al) : a.row.length = 11 := rfl
/-- what an act's parts lie in -/
structure AlM (m : Mem) (a : Al) : Prop where
  b : MSrc m 1 a.b.V a.b.bs.length (byV a.b.bs)
  p : MSrc m 1 a.p.b.V a.p.b.bs.length (byV a.p.b.bs)
  s0 : 0 ≤ a.p.seq
  s1 : a.p.seq < 18446744073709551616
def lightS (l : List Al) : Prop := l.length ≤ 120 ∧ ∀ a ∈ l, a.b.bs.length ≤ 5000 ∧ a.p.b.bs.length ≤ 5000
theorem c_light (l : List Al) (q : Option Addr) (c : Nat) :
    Ctr Try.prog 7 #[.slice q l.length c] (fun m => MSrc m 11 (.slice q l.length c) l.length (l.flatMap Al.row)) [] (fun v : {v : Bool // v = true → lightS l} => .bool v.1) (fun _ _ => True) (fun _ => []) := by
  refine Ctr.mk fun w F m C hp => x_gemotlaw10_light _ _ _ w _ ?_
  let T : Nat → Nat := fun k => min (l.getD k ⟨0, 0, ⟨[], none, 0⟩, ⟨0, 0, 0, 0, 0, 0, false, ⟨[], none, 0⟩⟩⟩).b.bs.length 6000 + min (l.getD k ⟨0, 0, ⟨[], none, 0⟩, ⟨0, 0, 0, 0, 0, 0, false, ⟨[], none, 0⟩⟩⟩).p.b.bs.length 6000
  refine ⟨fun left n w' _ => ∃ (j S : Nat), n = j ∧ j ≤ l.length ∧ j ≤ 200 ∧ left = 5000 - (S : Int) ∧ S ≤ 12000 * j ∧ (∀ k, k < j → T k ≤ S) ∧ Ctx F m w w' [] m [], fun _ n _ => (200 - n).toNat, ⟨0, 0, rfl, by omega, by omega, rfl, by omega, fun k h => by omega, C⟩, ?_⟩
  rintro left n w5 L6 _ ⟨j, S, rfl, hj, hj2, rfl, hS, hT, D⟩
  by_cases h1 : j < l.length ∧ j < 200
  · obtain ⟨h1, h2⟩ := h1
    rw [if_pos (by simp; omega)]
    obtain ⟨a, rfl, hc⟩ := hp.elem al_len h1
    refine ⟨by omega, by simpa using h1, ?_⟩
    rw [onSome_some]
    have hcs := D.cells hc
    refine ⟨_, _, _, hcs 2 _ rfl, by omega, by simpa using h1, ?_⟩
    rw [onSome_some]
    have hc10 := hcs 10 _ rfl
    refine ⟨l[j].p.b.q, l[j].p.b.bs.length, l[j].p.b.c, ?_, fun w15 h15 => ?_⟩
    · exact hc10
    · have eT : T j = min l[j].b.bs.length 6000 + min l[j].p.b.bs.length 6000 := by simp [T, h1]
      have m1 : (if (6000 : Int) < ((l[j].b.bs.length : Nat) : Int) then (6000 : Int) else ((l[j].b.bs.length : Nat) : Int)) = ((min l[j].b.bs.length 6000 : Nat) : Int) := by split <;> omega
      have m2 : (if (6000 : Int) < ((l[j].p.b.bs.length : Nat) : Int) then (6000 : Int) else ((l[j].p.b.bs.length : Nat) : Int)) = ((min l[j].p.b.bs.length 6000 : Nat) : Int) := by split <;> omega
      rw [m1, m2, w_i64 (n := 5000 - (S : Int) - ((min l[j].b.bs.length 6000 : Nat) : Int)) (by omega) (by omega), w_i64 (n := 5000 - (S : Int) - ((min l[j].b.bs.length 6000 : Nat) : Int) - ((min l[j].p.b.bs.length 6000 : Nat) : Int)) (by omega) (by omega)]
      have e : IntKind.wrap .i64 ((j : Int) + 1) = ((j + 1 : Nat) : Int) := by rw [w_i64 (by omega) (by omega)]; omega
      rw [e]
      refine ⟨⟨j + 1, S + T j, rfl, by omega, by omega, by omega, by omega, fun k hk => ?_, D.hid0 h15⟩, Nat.le_of_eq (by show ((200 : Int) - ((j + 1 : Nat) : Int)).toNat + 1 = ((200 : Int) - (j : Int)).toNat; omega)⟩
      by_cases hkj : k = j
      · subst hkj; omega
      · have := hT k (by omega); omega
  · rw [if_neg (by simp; omega)]
    refine Ctr.ret (m' := m) (L := []) ⟨decide (((l.length : Nat) : Int) ≤ 120) && decide ((5000 - (S : Int)) ≥ 0), fun h => ?_⟩ rfl trivial D
    simp only [Bool.and_eq_true, decide_eq_true_eq] at h
    refine ⟨by omega, fun a ha => ?_⟩
    obtain ⟨k, hk, rfl⟩ := List.getElem_of_mem ha
    have := hT k (by omega)
    have eT : T k = min l[k].b.bs.length 6000 + min l[k].p.b.bs.length 6000 := by simp [T, hk]
    omega
end Go.Proofs
