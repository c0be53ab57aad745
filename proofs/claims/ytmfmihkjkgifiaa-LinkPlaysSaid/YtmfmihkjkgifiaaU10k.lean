import Derived.Test.YtmfmihkjkgifiaaU10j
set_option linter.unusedVariables false
set_option linter.unusedSimpArgs false
set_option maxRecDepth 10000
namespace Go.Proofs
open Go X RowKit
/-! ### two ends, side by side -/
def up {α : Type} (t : Bool) (v : α) (f : Bool → α) : Bool → α := fun u => if u = t then v else f u
theorem up_same {α : Type} (t : Bool) (v : α) (f : Bool → α) : up t v f t = v := by simp [up]
theorem up_not {α : Type} (t : Bool) (v : α) (f : Bool → α) : up t v f (!t) = f (!t) := by cases t <;> simp [up]
theorem up_not' {α : Type} (t : Bool) (v : α) (f : Bool → α) : up (!t) v f t = f t := by cases t <;> simp [up]
theorem all_b {p : Bool → Prop} (t : Bool) (h1 : p t) (h2 : p (!t)) : ∀ u, p u := fun u => by cases t <;> cases u <;> simp_all
structure Fd where (b : Bool → Nat) (x : Bool → Lk) (fly : List Pk) (S C : Bool → Bys) (now : Int)
def nodeN (t : Bool) : Int := if t then 2 else 1
def lifeN (t : Bool) : Int := if t then 3 else 1
structure FI (first ag : Int) (ns ne nn : Nat) (f : Fd) (k : Bool → Nat) : Prop where
  dir : ∀ t, Dir first (f.x t) (f.S t) (k t)
  rec_ : ∀ t, Rec first (f.x t) (f.S (!t)) (f.C t)
  kC : ∀ t, k t ≤ (f.C (!t)).length
  nm : ∀ t, (f.x t).mn = nodeN t ∧ (f.x t).ml = lifeN t ∧ (f.x t).pn = nodeN (!t) ∧ (f.x t).pl = lifeN (!t) ∧ (f.x t).again = ag
  SL : ∀ t, (f.S t).length ≤ ns
  EL : ∀ t, (f.x t).E.length ≤ ne
  told : ∀ t, Told f.now (f.x t)
  now0 : 0 ≤ f.now
  now1 : f.now ≤ nn
/-- a packet for end t -/
structure PkFor (first : Int) (f : Fd) (t : Bool) (p : Pk) : Prop where
  fn : p.fn = nodeN (!t)
  fl : p.fl = lifeN (!t)
  tn : p.tn = nodeN t
  tl : p.tl = lifeN t
  ok : PkOK first (f.S (!t)) (f.C (!t)) p.er
def Fd.heard (f : Fd) (t : Bool) (p : Pk) (nb : Br) : Fd := { f with x := up t ((f.x t).heard p nb).2 f.x, C := up t (f.C t ++ ((f.x t).heard p nb).1.map Br.bs) f.C }
def Fd.out (f : Fd) (t : Bool) : Fd := { f with x := up t ((f.x t).told f.now) f.x }
section
variable {first ag : Int} {ns ne nn : Nat} {f : Fd} {k : Bool → Nat}
theorem FI.hear (h0 : 0 ≤ first) (hS : first + (ns : Int) + 1 < 18446744073709551616) (h : FI first ag ns ne nn f k) (t : Bool) {p : Pk} {nb : Br} (hp : PkFor first f t p) (hnb : nb.bs = p.b.bs) :
    ∃ k', Heard first (f.x t) ((f.x t).heard p nb).2 (f.S t) (f.S (!t)) (f.C (!t)) (f.C t) p.er (k t) ((f.x t).heard p nb).1 k' ∧ FI first ag ns (ne + 1) nn (f.heard t p nb) (up t k' k) := by
  have hSl := h.SL (!t)
  have hr := h.rec_ (!t)
  rw [Bool.not_not] at hr
  have hm : (f.x t).mine p = true := by
    obtain ⟨e1, e2, e3, e4, _⟩ := h.nm t
    simp only [Lk.mine, Bool.and_eq_true, beq_iff_eq]
    exact ⟨⟨hp.fn.trans e3.symm, hp.fl.trans e4.symm⟩, hp.tn.trans e1.symm, hp.tl.trans e2.symm⟩
  obtain ⟨k', hH⟩ := hear_ok (y := f.x t) h0 (by omega) (h.dir t) (h.rec_ t) (h.kC t) hr.le hp.ok hm hnb
  refine ⟨k', hH, all_b t ?_ ?_, all_b t ?_ ?_, all_b t ?_ ?_, all_b t ?_ ?_, h.SL, all_b t ?_ ?_, all_b t ?_ ?_, h.now0, h.now1⟩
  · simp only [Fd.heard, up_same]; exact hH.dir
  · simp only [Fd.heard, up_not]; exact h.dir _
  · simp only [Fd.heard, up_same]; exact hH.rec_
  · simp only [Fd.heard, up_not]; exact h.rec_ _
  · simp only [Fd.heard, up_same, up_not]; exact hH.kC
  · simp only [Fd.heard, up_not, Bool.not_not, up_same]
    have := h.kC (!t); rw [Bool.not_not] at this
    simp only [List.length_append]; omega
  · simp only [Fd.heard, up_same]
    obtain ⟨e1, e2, e3, e4, e5⟩ := h.nm t
    obtain ⟨g1, g2, g3, g4, g5⟩ := hH.fix
    exact ⟨g1.trans e1, g2.trans e2, g3.trans e3, g4.trans e4, g5.trans e5⟩
  · simp only [Fd.heard, up_not]; exact h.nm _
  · simp only [Fd.heard, up_same]; have := hH.El; have := h.EL t; omega
  · simp only [Fd.heard, up_not]; have := h.EL (!t); omega
  · simp only [Fd.heard, up_same]; exact fun s hs => h.told t s (hH.old s hs)
  · simp only [Fd.heard, up_not]; exact h.told _
theorem FI.out (h : FI first ag ns ne nn f k) (t : Bool) : FI first ag ns ne nn (f.out t) k := by
  refine ⟨all_b t ?_ ?_, all_b t ?_ ?_, h.kC, all_b t ?_ ?_, h.SL, all_b t ?_ ?_, all_b t ?_ ?_, h.now0, h.now1⟩
  · simp only [Fd.out, up_same]; exact told_dir (h.dir t) _
  · simp only [Fd.out, up_not]; exact h.dir _
  · simp only [Fd.out, up_same]; exact ⟨(h.rec_ t).le, (h.rec_ t).pre, (h.rec_ t).want, (h.rec_ t).early⟩
  · simp only [Fd.out, up_not]; exact h.rec_ _
  · simp only [Fd.out, up_same]; exact h.nm t
  · simp only [Fd.out, up_not]; exact h.nm _
  · simp only [Fd.out, up_same]; exact h.EL t
  · simp only [Fd.out, up_not]; exact h.EL _
  · simp only [Fd.out, up_same]; exact told_told (h.told t) h.now0
  · simp only [Fd.out, up_not]; exact h.told _
theorem FI.pks (h : FI first ag ns ne nn f k) (t : Bool) {o : List Pk} (ho : o.map Pk.er = (f.x t).outs f.now) {p : Pk} (hp : p ∈ o) : PkFor first f (!t) p ∧ p.ack = first + ((f.C t).length : Int) := by
  have hm : p.er ∈ (f.x t).outs f.now := by rw [← ho]; exact List.mem_map.2 ⟨p, hp, rfl⟩
  obtain ⟨g1, g2, g3, g4, g5, g6⟩ := outs_ok (h.dir t) (h.rec_ t) f.now hm
  obtain ⟨e1, e2, e3, e4, _⟩ := h.nm t
  refine ⟨⟨?_, ?_, ?_, ?_, ?_⟩, g6⟩
  · rw [Bool.not_not]; exact g2.trans e1
  · rw [Bool.not_not]; exact g3.trans e2
  · exact g4.trans e3
  · exact g5.trans e4
  · rw [Bool.not_not]; exact g1
theorem FI.mono {ne' nn' : Nat} (h : FI first ag ns ne nn f k) (h1 : ne ≤ ne') (h2 : nn ≤ nn') : FI first ag ns ne' nn' f k :=
  ⟨h.dir, h.rec_, h.kC, h.nm, h.SL, fun t => Nat.le_trans (h.EL t) h1, h.told, h.now0, by have := h.now1; omega⟩
theorem FI.tick (h : FI first ag ns ne nn f k) (d : Nat) : FI first ag ns ne (nn + d) { f with now := f.now + (d : Int) } k :=
  ⟨h.dir, h.rec_, h.kC, h.nm, h.SL, h.EL, fun t => (h.told t).mono (by show f.now ≤ f.now + _; omega), by have := h.now0; show 0 ≤ f.now + _; omega, by have := h.now1; show f.now + _ ≤ _; omega⟩
end
/-! ### told and heard in turns -/
/-- i of what end t tells were heard -/
structure HalfI (f : Fd) (k : Bool → Nat) (t : Bool) (i : Nat) (g : Fd) (k' : Bool → Nat) : Prop where
  x : g.x t = (f.x t).told f.now
  S : g.S = f.S
  now : g.now = f.now
  b : g.b = f.b
  C : g.C t = f.C t
  kt : k' t = k t
  kr : k (!t) ≤ k' (!t)
  adv : (f.x t).W ≠ [] → k t + i ≤ (g.C (!t)).length
  ak : 0 < i → (f.C t).length ≤ k' (!t)
  ow : 0 < i → (f.x t).W ≠ [] → (g.x (!t)).owed = true
  old : ∀ s ∈ (g.x (!t)).W, s ∈ (f.x (!t)).W
section
variable {first ag : Int} {ns ne nn : Nat} {f g : Fd} {k k' : Bool → Nat} {t : Bool} {i : Nat} {o : List Pk}
theorem HalfI.start (h : FI first ag ns ne nn f k) (t : Bool) : HalfI f k t 0 (f.out t) k := by
  refine ⟨up_same .., rfl, rfl, rfl, rfl, rfl, Nat.le_refl _, fun _ => h.kC t, fun h => by omega, fun h => by omega, fun s hs => ?_⟩
  simpa only [Fd.out, up_not] using hs
def dueAll (x : Lk) (now : Int) : Prop := ∀ s ∈ x.W, dueB x.again now s = true
theorem HalfI.step (h0 : 0 ≤ first) (hS : first + (ns : Int) + 1 < 18446744073709551616) (hf : FI first ag ns ne nn f k) (hd : dueAll (f.x t) f.now) (ho : o.map Pk.er = (f.x t).outs f.now) (H : HalfI f k t i g k') {m : Nat} (hg : FI first ag ns m nn g k') (hi : i < o.length)
    {nb : Br} (hnb : nb.bs = o[i].b.bs) : ∃ k'', FI first ag ns (m + 1) nn (g.heard (!t) o[i] nb) k'' ∧ HalfI f k t (i + 1) (g.heard (!t) o[i] nb) k'' := by
  obtain ⟨hp, hack⟩ := hf.pks t ho (List.getElem_mem hi)
  have hpg : PkFor first g (!t) o[i] := ⟨hp.fn, hp.fl, hp.tn, hp.tl, by
    have := hp.ok; rw [Bool.not_not] at this ⊢; rw [H.S, H.C]; exact this⟩
  obtain ⟨k2, hH, hF⟩ := hg.hear h0 hS (!t) hpg hnb
  refine ⟨_, hF, ?_, H.S, H.now, H.b, ?_, ?_, ?_, fun hW => ?_, fun _ => ?_, fun _ hW => ?_, fun s hs => ?_⟩
  · simp only [Fd.heard, up_not']; exact H.x
  · simp only [Fd.heard, up_not']; exact H.C
  · simp only [up_not']; exact H.kt
  · simp only [up_same]; exact Nat.le_trans H.kr hH.kk
  · -- the next comes, or came
    have hq : o[i].er = (f.x t).pk ((f.x t).W[i]'(by
        have h2 := congrArg List.length ho
        rw [outs_full hd, if_neg (by simpa using hW)] at h2
        simp at h2; omega)) := by
      have h1 : (o.map Pk.er)[i]? = some o[i].er := by simp [hi]
      rw [ho, outs_full hd, if_neg (by simpa using hW)] at h1
      have h2 := (List.getElem?_eq_some_iff.1 h1)
      obtain ⟨hl, h2⟩ := h2
      simp at h2
      exact h2.symm
    have hlt : i < (f.x t).W.length := by
        have h2 := congrArg List.length ho
        rw [outs_full hd, if_neg (by simpa using hW)] at h2
        simp at h2; omega
    have hrow := (hf.dir t).row i _ (List.getElem?_eq_getElem hlt)
    have hs1 : o[i].er.seq = first + ((k t + i : Nat) : Int) := by rw [hq]; exact hrow.1
    have hs2 : o[i].er.has = true := by rw [hq]; rfl
    have ha := H.adv hW
    simp only [Fd.heard, up_same, List.length_append, List.length_map]
    by_cases hc : k t + i = (g.C (!t)).length
    · have := hH.new hs2 (by rw [hs1, hc])
      omega
    · omega
  · simp only [up_same]
    exact hH.ak _ (by show o[i].ack = _; rw [hack])
  · simp only [Fd.heard, up_same]
    refine hH.ow ?_
    have h1 : (o.map Pk.er)[i]? = some o[i].er := by simp [hi]
    rw [ho, outs_full hd, if_neg (by simpa using hW)] at h1
    obtain ⟨hl, h2⟩ := List.getElem?_eq_some_iff.1 h1
    rw [← h2]; simp [Lk.pk]
  · simp only [Fd.heard, up_same] at hs
    exact H.old s (hH.old s hs)
/-- where the turns stand: r by end t, s by the other one -/
structure Tn (t : Bool) (r s : Nat) (f : Fd) (k : Bool → Nat) : Prop where
  a : min (f.S t).length (8 * r) ≤ k t
  a2 : min (f.S (!t)).length (8 * (s - 1)) ≤ k (!t)
  b : s = 0 ∨ (f.x (!t)).W = [] ∨ ((f.x t).owed = true ∧ min (f.S (!t)).length (8 * s) ≤ (f.C t).length)
theorem Tn.next {r s : Nat} (T : Tn t r s f k) (hf : FI first ag ns ne nn f k) (hd : dueAll (f.x t) f.now) (ho : o.map Pk.er = (f.x t).outs f.now) (H : HalfI f k t o.length g k') : Tn (!t) s (r + 1) g k' := by
  have hlen := congrArg List.length ho
  rw [outs_full hd, List.length_map] at hlen
  have hk := (hf.dir t).len
  have hk2 := (hf.dir (!t)).len
  refine ⟨?_, ?_, ?_⟩
  · rw [H.S]
    rcases T.b with h | h | ⟨h1, h2⟩
    · subst h; simp
    · rw [h] at hk2; simp only [List.length_nil] at hk2; have := H.kr; omega
    · have hpos : 0 < o.length := by
        rw [hlen]
        by_cases hW : (f.x t).W = []
        · rw [hW, h1]; simp
        · rw [if_neg (by simpa using hW)]
          have : 0 < (f.x t).W.length := List.length_pos_iff.2 hW
          simp; omega
      have := H.ak hpos
      omega
  · rw [H.S, Bool.not_not, H.kt]
    exact T.a
  · right
    rw [H.S, Bool.not_not, H.x]
    by_cases hW : (f.x t).W = []
    · left; show Wi _ _ _ = []; rw [hW]; rfl
    · right
      have hpos : 0 < (f.x t).W.length := List.length_pos_iff.2 hW
      rw [if_neg (by simpa using hW)] at hlen
      simp only [List.length_map, List.length_take] at hlen
      refine ⟨H.ow (by omega) hW, ?_⟩
      have := H.adv hW
      have := T.a
      omega
/-- all came, and nothing waits -/
theorem Tn.all {r s : Nat} (T : Tn t r s f k) (hf : FI first ag ns ne nn f k) (hr : ns ≤ 8 * r) (hs : ns ≤ 8 * (s - 1)) : ∀ u, (f.x u).W = [] ∧ (f.C (!u)).length = (f.S u).length := by
  have key : ∀ u, (f.S u).length ≤ k u → (f.x u).W = [] ∧ (f.C (!u)).length = (f.S u).length := fun u hu => by
    have h1 := (hf.dir u).len
    have h2 := hf.kC u
    have h3 := (hf.rec_ (!u)).le
    rw [Bool.not_not] at h3
    exact ⟨List.eq_nil_of_length_eq_zero (by omega), by omega⟩
  have hS := hf.SL t
  have hS2 := hf.SL (!t)
  refine all_b t (key t ?_) (key (!t) ?_)
  · have := T.a; omega
  · have := T.a2; omega
theorem Tn.start (t : Bool) (f : Fd) (k : Bool → Nat) : Tn t 0 0 f k := ⟨by simp, by simp, .inl rfl⟩
end
end Go.Proofs
