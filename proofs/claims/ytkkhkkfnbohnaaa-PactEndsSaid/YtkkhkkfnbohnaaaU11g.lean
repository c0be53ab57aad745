import Derived.Test.YtkkhkkfnbohnaaaU11f
set_option linter.unusedVariables false
set_option linter.unusedSimpArgs false
set_option maxRecDepth 10000
namespace Go.Proofs
open Go X RowKit
def accE (e : Pe) (p : Pr) : Pe := if countE e p 1 then (if enoughE { e with got := e.got ++ [p] } then { e with got := e.got ++ [p], ph := 2 } else { e with got := e.got ++ [p] }) else e
theorem put_er {x : Pp} {p : Pr} {ph : Int} : (x.put p ph).er = if countE x.er p ph then { x.er with got := x.er.got ++ [p] } else x.er := by
  unfold Pp.put
  split <;> rfl
theorem acc_er {x : Pp} {p : Pr} : (x.acc p).er = accE x.er p := by
  unfold Pp.acc accE
  have h := put_er (x := x) (p := p) (ph := 1)
  by_cases hc : countE x.er p 1 = true
  · rw [if_pos hc] at h
    rw [if_pos hc, if_pos hc]
    by_cases he : enoughE (x.put p 1).er = true
    · rw [if_pos he, if_pos (by rw [← h]; exact he)]
      have : ({ x.put p 1 with ph := 2 } : Pp).er = { (x.put p 1).er with ph := 2 } := rfl
      rw [this, h]
    · rw [if_neg he, if_neg (by rw [← h]; exact he), h]
  · rw [if_neg hc, if_neg hc]
theorem ok0 (q : Sl) : Vw.ok ⟨0, 1, q, [⟨0, 1⟩]⟩ = true := by simp [Vw.ok, okL, Pr.ok]
theorem ph_er (x : Pp) : x.ph = x.er.ph := rfl
theorem bn_er (x : Pp) : x.bn = x.er.bn := rfl
abbrev p0 : Pr := ⟨0, 1⟩
abbrev p3 : Pr := ⟨3, 1⟩
def e1 : Pe := ⟨0, 1, [p0], 258, 0, 0, [p0], none, [], ([], [])⟩
def e2 : Pe := ⟨0, 1, [p0], 258, 1, 0, [], none, [], ([p0, p3], [])⟩
def e3 : Pe := ⟨0, 1, [p0], 258, 2, 0, [p0], none, [], ([p0, p3], [])⟩
section
variable {F0 : List Nat} {m0 : Mem} {w0 w : World} {L : List Nat} {m : Mem} {As : List Asn}
/-- procs that are listed -/
theorem newPrs (C : Ctx F0 m0 w0 w L m As) (l : List Pr) (cs : Array Value) (h : cs = (l.flatMap Pr.row).toArray) : ∃ m', m.le m' ∧ MSrc m' 2 (slV (some ⟨w.heap.size, 0, none⟩, l.length) l.length) l.length (l.flatMap Pr.row) ∧ Ctx F0 m0 w0 (w.alloc (.cells cs 67)) L m' As := by
  subst h
  obtain ⟨C1, hm⟩ := C.newShare (l.flatMap Pr.row) 67 (0, 0)
  exact ⟨_, hm, MSrc.mk (flat_len pr_len l) (fun a ha => by injection ha with ha; subst ha; exact Mem.plus_cells _ _ _ _ _ fun j v h => by rw [Nat.zero_add]; exact h) (fun h => by cases h), C1⟩
end
theorem c_knows : Ctr Try.prog 9 #[] noMem [] (fun _ : Unit => .bool true) (fun _ _ => True) (fun _ => []) := by
  refine Ctr.mk fun w F m C _ => x_knows w _ ?_
  refine C.gives (c_proc 0 (by omega)) fun w2 k2 C => ⟨_, _, rfl, k2.size, ?_⟩
  obtain ⟨m1, hm1, hs1, C⟩ := newPrs C [p0] #[.int .u8 0, .int .u16 1] rfl
  refine C.gives (c_Ballot 1 2 (by omega) (by omega)) fun w6 k6 C => ⟨_, rfl, k6.size, ?_⟩
  refine (c_Start ⟨0, 1, (some ⟨w2.heap.size, 0, none⟩, 1), [p0]⟩ 258 (by simp) (ok0 _) (by decide)).call (As := []) C hs1 fun i m2 w9 hk hm2 hx C => ⟨_, rfl, hk.size, ?_⟩
  obtain ⟨b, mp, x⟩ := i
  simp only at hx C
  obtain ⟨hx, hxe⟩ := hx
  refine C.gives (c_proc 0 (by omega)) fun w12 k12 C => ⟨_, _, rfl, k12.size, ?_⟩
  refine (c_Promise b mp x p0 (none, 0) [] 0 vl0 false (.inr trivial)).call (As := []) C ⟨hx, ⟨.nil .., by simp⟩, by simp, vl0_M _⟩ fun y m3 w16 hk hm3 hy C => ⟨rfl, hk.size, ?_⟩
  obtain ⟨hy, hye⟩ := hy
  have hye1 : y.er = e1 := by rw [hye, hxe]; rfl
  refine (c_Ready b mp y).call (As := []) C hy fun _ m4 w18 hk hm4 _ C => ⟨_, rfl, hk.size, ?_⟩
  refine C.gives (c_proc 0 (by omega)) fun w21 k21 C => ⟨_, _, rfl, k21.size, ?_⟩
  refine C.gives (c_proc 3 (by omega)) fun w25 k25 C => ⟨_, _, rfl, k25.size, ?_⟩
  obtain ⟨m5, hm5, hs5, C⟩ := newPrs C [p0, p3] #[.int .u8 0, .int .u16 1, .int .u8 3, .int .u16 1] rfl
  refine (c_Propose b mp y (some ⟨w25.heap.size, 0, none⟩, 2) [p0, p3] (by simp)).call (As := []) C ⟨(hy.mono hm4).mono hm5, hs5⟩ fun i m6 w29 hk hm6 hi C => ⟨_, _, _, _, _, _, _, rfl, hk.size, fun w37 L38 h37 g37 => ?_⟩
  obtain ⟨z, t⟩ := i
  obtain ⟨hz, hze, ht, hte⟩ := hi
  simp only at hz hze ht hte C
  have hr : readyE y.er = true := by rw [hye1]; rfl
  have hze2 : z.er = e2 := by rw [hze, hye1]; rfl
  rw [hr, if_pos rfl] at hte
  have hch : z.ch.er = ([p0, p3], []) := by have := congrArg Pe.ch hze2; exact this
  have htl : t.ms.length = 2 := by have := congrArg (fun v => v.1.length) (hte.trans hch); exact this
  refine (C.hidL h37 g37).gives (c_proc 0 (by omega)) fun w40 k40 C => ⟨_, _, rfl, k40, ?_⟩
  refine (c_Accepted b mp z p0).call (As := []) C hz fun _ m7 w44 hk hm7 hz3 C => ⟨_, rfl, hk, ?_⟩
  have hae : (z.acc p0).er = e3 := by rw [acc_er, hze2]; rfl
  have hph : (z.acc p0).ph = 2 := by rw [ph_er, hae]; rfl
  have hbn : (z.acc p0).bn = 258 := by rw [bn_er, hae]; rfl
  rw [hr, hph, htl, if_pos (by decide)]
  refine (c_PBallot b mp (z.acc p0)).call (As := []) C trivial fun _ m8 w47 hk hm8 _ C => ⟨_, rfl, hk, ?_⟩
  rw [hbn, if_pos (by decide)]
  refine (c_Phase b mp (z.acc p0)).call (As := []) C trivial fun _ m9 w50 hk hm9 _ C => ⟨_, rfl, hk, ?_⟩
  rw [hph]
  exact Ctr.ret () rfl trivial C.drop.drop
end Go.Proofs
