import Derived.Test.YtmfmihkjkgifiaaU10b
set_option linter.unusedVariables false
set_option linter.unusedSimpArgs false
set_option maxRecDepth 10000
namespace Go.Proofs
open Go X RowKit
/-! ### what comes -/
theorem fnd_del_len {β : Type} {x : Int} {v : β} : ∀ {l : List (Int × β)}, fnd x l = some v → (X.mdel x l).length + 1 = l.length
  | (k, u) :: l, h => by
    simp only [fnd] at h
    simp only [X.mdel]
    split at h
    · rename_i hx; simp [hx]
    · rename_i hx; rw [if_neg hx]; simp [fnd_del_len h]
theorem mem_del {β : Type} {x : Int} {e : Int × β} : ∀ {l : List (Int × β)}, e ∈ X.mdel x l → e ∈ l
  | [], h => h
  | (k, u) :: l, h => by
    simp only [X.mdel] at h
    split at h
    · exact List.mem_cons_of_mem _ h
    · rcases List.mem_cons.1 h with h | h
      · rw [h]; exact List.mem_cons_self
      · exact List.mem_cons_of_mem _ (mem_del h)
def comeF : Nat → Int → List (Int × Br) → List Br × Int × List (Int × Br)
  | 0, want, E => ([], want, E)
  | n + 1, want, E => match fnd want E with
    | none => ([], want, E)
    | some b => (b :: (comeF n (IntKind.wrap .u64 (want + 1)) (X.mdel want E)).1, (comeF n (IntKind.wrap .u64 (want + 1)) (X.mdel want E)).2)
theorem comeF_none {n : Nat} {want : Int} {E : List (Int × Br)} (h : fnd want E = none) : comeF n want E = ([], want, E) := by
  cases n with
  | zero => rfl
  | succ n => simp [comeF, h]
theorem comeF_some {want : Int} {E : List (Int × Br)} {v : Br} (h : fnd want E = some v) :
    comeF E.length want E = (v :: (comeF (X.mdel want E).length (IntKind.wrap .u64 (want + 1)) (X.mdel want E)).1, (comeF (X.mdel want E).length (IntKind.wrap .u64 (want + 1)) (X.mdel want E)).2) := by
  rw [← fnd_del_len h]; simp [comeF, h]
abbrev bodsA (q : Option Addr) (c : Nat) (l : List Br) : Asn := slA (.slice q l.length c) l.length (l.map Br.V) 35 1
def Lk.comes (x : Lk) : List Br := (comeF x.E.length (IntKind.wrap .u64 (x.want + 1)) x.E).1
def Lk.came (x : Lk) : Lk := { x with want := (comeF x.E.length (IntKind.wrap .u64 (x.want + 1)) x.E).2.1, E := (comeF x.E.length (IntKind.wrap .u64 (x.want + 1)) x.E).2.2 }
theorem z35 : ((Try.prog.info? 35).bind (·.zero)) = some (.slice none 0 0) := by kernel_rfl
theorem key25 : KeyT Try.prog 25 kU := keyInt (k := .u64) (by kernel_rfl)
theorem t80 : Try.prog.underlying 80 = some (.map 25 35) := by kernel_rfl
theorem c_come (b : Nat) (x : Lk) (nb : Br) (hE : x.E.length ≤ 1000000) :
    Ctr Try.prog 35 #[.pointer (some ⟨b, 0, none⟩), nb.V] (fun m => BrM m nb ∧ LkM m x) [lkA b x] (fun i : Option Addr × Nat => .slice i.1 (nb :: x.comes).length i.2) (fun _ m => (∀ d ∈ x.comes, BrM m d) ∧ LkM m x.came)
      (fun i => [lkA b x.came, bodsA i.1 i.2 (nb :: x.comes)]) := by
  refine Ctr.mk fun w F m C hp => x_link_Link_come _ nb.q nb.bs.length nb.c w _ ?_
  obtain ⟨hd, hx⟩ := hp
  have C1 := (C.slNew (cs := [nb.V]) (n := 1) (ty := 35) (sz := 1) rfl (by simp [maxLen])).swap
  obtain ⟨q, c, mb, C1⟩ := lkO C1
  refine ⟨x.want, by rw [Addr.add_mid]; exact C1.blkCell (j := 6) rfl, rfl, C1.there _ _ (by simp), ?_⟩
  have C2 := C1.store 6 [.int .u64 (IntKind.wrap .u64 (x.want + 1))] (by simp)
  obtain ⟨i35, hi35, hz35⟩ := Option.bind_eq_some_iff.1 z35
  refine ⟨fun qo k c' w' _ => ∃ done : List Br, ∃ want : Int, ∃ E : List (Int × Br), k = done.length + 1 ∧ done.length + E.length = x.E.length ∧ (x.comes = done ++ (comeF E.length want E).1 ∧ (comeF x.E.length (IntKind.wrap .u64 (x.want + 1)) x.E).2 = (comeF E.length want E).2) ∧ (∀ d ∈ done, BrM m d) ∧ (∀ e ∈ E, BrM m e.2) ∧
    Ctx F m w w' [] m [lkB b { x with want := want, E := E } (.slice q x.W.length c) (.map (some mb)), rowsA q c x.W, earlyA mb E, bodsA qo c' (nb :: done)], fun _ k _ _ => x.E.length + 1 - k,
    ⟨[], _, x.E, rfl, by simp, ⟨rfl, rfl⟩, by simp, hx.2, C2⟩, ?_⟩
  rintro qo k c' w7 L _ ⟨done, want, E, rfl, hlen, ⟨he1, he2⟩, hdn, hEm, D⟩
  have hf : ∀ {w' L'} {As : List Asn}, Ctx F m w w' L' m (lkB b { x with want := want, E := E } (.slice q x.W.length c) (.map (some mb)) :: As) → FactsW [(⟨b, 8, none⟩, [.map (some mb)]), (⟨b, 6, none⟩, [.int .u64 want])] w' L' := fun C => C.blkFact1 8 _ rfl (C.blkFact1 6 _ rfl (facts_nil _ _))
  refine ⟨_, hf D, some mb, by simp [Addr.add_mid], want, by simp [Addr.add_mid], fun w12 h12 => ?_⟩
  replace D := D.hid0 h12
  have hlook := Ctx.mlook (P := Try.prog) t80 key25 hi35 hz35 D.third want true
  cases hfn : fnd want E with
  | none =>
    rw [hfn] at hlook
    refine ⟨none, 0, 0, false, w12, hlook, Nat.le_refl _, hf D, ?_⟩
    rw [if_pos (by rfl)]
    rw [comeF_none hfn] at he1 he2
    simp only [List.append_nil] at he1
    refine Ctr.ret (m' := m) (L := []) (qo, c') (by rw [he1]; rfl) ⟨by rw [he1]; exact hdn, hx.1, by show ∀ e ∈ (comeF _ _ _).2.2, _; rw [he2]; exact hEm⟩ ?_
    have e : x.came = { x with want := want, E := E } := by unfold Lk.came; rw [he2]
    rw [e, he1]
    exact lkI (x := { x with want := want, E := E }) D
  | some v =>
    rw [hfn] at hlook
    refine ⟨v.q, v.bs.length, v.c, true, w12, hlook, Nat.le_refl _, hf D, ?_⟩
    rw [if_neg (by simp)]
    refine ⟨_, hf D, some mb, by simp [Addr.add_mid], want, by simp [Addr.add_mid], fun w21 h21 => ?_⟩
    replace D := D.hid0 h21
    obtain ⟨w22, hr, hk, D2⟩ := Ctx.mdel (P := Try.prog) (ty := 0) t80 key25 D.third want
    refine ⟨w22, hr, hk.size, ?_⟩
    have D3 := D2.alloc [v.V] 35
    have hcell : Cells (w22.alloc (.cells [v.V].toArray 35)) ⟨w22.heap.size, 0, none⟩ [v.V] := D3.blkCells fun j v e => by rw [Nat.zero_add]; exact e
    have D4 := (D3.drop).perm (Bs := [bodsA qo c' (nb :: done), lkB b { x with want := want, E := E } (.slice q x.W.length c) (.map (some mb)), rowsA q c x.W, earlyA mb (X.mdel want E)]) (by
      refine List.Perm.trans ?_ (List.perm_append_comm (l₁ := [lkB b { x with want := want, E := E } (.slice q x.W.length c) (.map (some mb)), rowsA q c x.W, earlyA mb (X.mdel want E)]) (l₂ := [bodsA qo c' (nb :: done)]))
      exact (List.perm_append_comm (l₁ := [earlyA mb (X.mdel want E)]) (l₂ := [lkB b { x with want := want, E := E } (.slice q x.W.length c) (.map (some mb)), rowsA q c x.W])).append_right [bodsA qo c' (nb :: done)])
    obtain ⟨q2, c2, w26, hr2, hk2, D5⟩ := D4.app (P := Try.prog) (bytes := 64) (t := 50) (t2 := 50) 50 (by kernel_rfl) (.some ⟨w22.heap.size, 0, none⟩ 1 1 [v.V] rfl hcell) (by simp; omega) (by simp [oneC])
    refine ⟨q2, (nb :: done).length + 1, c2, w26, hr2, hk2.size, ?_⟩
    have D6 := D5.rot
    have D6 := D5.perm (Bs := [lkB b { x with want := want, E := E } (.slice q x.W.length c) (.map (some mb)), rowsA q c x.W, earlyA mb (X.mdel want E), slA (.slice q2 ((nb :: done).length + 1) c2) ((nb :: done).length + 1) ((nb :: done).map Br.V ++ [v.V]) 35 1]) (List.perm_append_comm (l₁ := [_]) (l₂ := [_, _, _]))
    refine ⟨want, by rw [Addr.add_mid]; exact D6.blkCell (j := 6) rfl, rfl, D6.there _ _ (by simp), ?_⟩
    have D7 := D6.store 6 [.int .u64 (IntKind.wrap .u64 (want + 1))] (by simp)
    rw [comeF_some hfn] at he1 he2
    have hdl := fnd_del_len hfn
    refine ⟨⟨done ++ [v], IntKind.wrap .u64 (want + 1), X.mdel want E, by simp, by simp; omega, ⟨by rw [he1]; simp, he2⟩, fun d hd => ?_, fun e he => hEm e (mem_del he), ?_⟩, ?_⟩
    · rcases List.mem_append.1 hd with hd | hd
      · exact hdn d hd
      · simp only [List.mem_singleton] at hd; subst hd; exact hEm _ (fnd_mem hfn)
    · have e1 : (nb :: (done ++ [v])).length = (nb :: done).length + 1 := by simp
      have e2 : (nb :: (done ++ [v])).map Br.V = (nb :: done).map Br.V ++ [v.V] := by simp
      unfold bodsA
      rw [e1, e2]
      exact D7
    · exact Nat.le_of_eq (by show x.E.length + 1 - ((nb :: done).length + 1) + 1 = x.E.length + 1 - (done.length + 1); simp; omega)
end Go.Proofs
