import Derived.Test.YtmfmihkjkgifiaaU10f
set_option linter.unusedVariables false
set_option linter.unusedSimpArgs false
set_option maxRecDepth 10000
namespace Go.Proofs
open Go X RowKit
theorem t35 : Try.prog.underlying 35 = some (.slice 5) := by kernel_rfl
theorem t5 : Try.prog.underlying 5 = some (.int .u8) := by kernel_rfl
theorem t9 : Try.prog.underlying 9 = some .string := by kernel_rfl
theorem run_body {F0 : List Nat} {m0 : Mem} {w0 w : World} {L : List Nat} {m : Mem} {As : List Asn} (C : Ctx F0 m0 w0 w L m As) {d : Br} (h : BrM m d) :
    (convert 35 9 d.V).run Try.prog w = .ok (.string (toBA d.bs)) w := run_str t35 t5 t9 (C.src h.1) ⟨_, _, rfl⟩
theorem sent0 (x : Lk) (nb : Br) (h : sendE x = 0) : x.sent nb = { x with W := x.W ++ [⟨x.next, nb, false, 0⟩], next := IntKind.wrap .u64 (x.next + 1) } := by rw [Lk.sent, if_pos h]
theorem body_ne {l : List Br} (h : 0 < l.length) : l.map Br.V ≠ [] := fun e => by
  have := congrArg List.length e; simp at this; subst this; simp at h
theorem c_knows : Ctr Try.prog 8 #[] noMem [] (fun _ : Unit => .bool true) (fun _ _ => True) (fun _ => []) := by
  refine Ctr.mk fun w F m C _ => x_gemotlaw10_knows w _ ?_
  refine (c_ends 5 2).call C trivial fun b m1 w2 hk hm _ C => ⟨_, _, rfl, hk.size, ?_⟩
  obtain ⟨C1, hm1⟩ := C.newShare (byV [104, 105]) 5 (2, 3)
  refine ⟨some ⟨w2.heap.size, 0, none⟩, 2, 2, _, Lib.run_convert_bytes_const (P := Try.prog) w2 35 5 #[.int .u8 104, .int .u8 105] 2 2 t35 t5, by simp, ?_⟩
  have hd : BrM (m1.plus w2.heap.size (byV [104, 105])) ⟨[104, 105], some ⟨w2.heap.size, 0, none⟩, 2⟩ :=
    ⟨MSrc.mk (by simp [byV]) (fun a ha => by injection ha with ha; subst ha; exact Mem.plus_cells _ _ _ _ _ fun j v h => by rw [Nat.zero_add]; exact h) (fun h => by cases h), by simp⟩
  have hx0 : LkM (m1.plus w2.heap.size (byV [104, 105])) (lk0 1 1 2 3 5 2) := ⟨by simp, by simp⟩
  refine (c_Send b.1 (lk0 1 1 2 3 5 2) ⟨[104, 105], some ⟨w2.heap.size, 0, none⟩, 2⟩).call C1 ⟨hd, hx0⟩ fun nb m2 w10 hk hm2 hs C => ⟨_, rfl, hk.size, ?_⟩
  have hE0 : sendE (lk0 1 1 2 3 5 2) = 0 := by decide
  obtain ⟨hn1, hn2, hn3⟩ := hs
  rw [hE0]
  have e1 := sent0 (lk0 1 1 2 3 5 2) nb hE0
  have hWl : ((lk0 1 1 2 3 5 2).sent nb).W = [⟨5, nb, false, 0⟩] := by rw [e1]; rfl
  have hout : ((lk0 1 1 2 3 5 2).sent nb).outs 0 = [⟨1, 1, 2, 3, 5, 5, true, [104, 105]⟩] := by
    rw [e1, Lk.outs, Lk.dues]
    show (if (List.isEmpty _ && _) = true then _ else _) = _
    simp [dueB, Lk.pk, hn1]
  refine (c_Out b.1 ((lk0 1 1 2 3 5 2).sent nb) 0 (by rw [hWl]; simp)).call C hn3 fun o m3 w13 hk hm3 ho C => ⟨_, _, _, rfl, hk.size, ?_⟩
  obtain ⟨ho1, ho2, ho3⟩ := ho
  obtain ⟨ol, oq, oc⟩ := o
  rw [hout] at ho1
  obtain ⟨pk, rfl, hpk⟩ := List.map_eq_singleton_iff.1 ho1
  have hpb := ho2 pk (by simp)
  refine C.gives (c_num 0) fun w18 k18 C => ⟨_, rfl, k18.size, ?_⟩
  rw [if_neg (by simp)]
  refine ⟨by decide, by simp, ?_⟩
  have C2 : Ctx F m w w18 [] m3 (pksA oq oc [pk] :: lkA b.1 (((lk0 1 1 2 3 5 2).sent nb).told 0) :: lkA b.2 (lk0 2 3 1 1 5 2) :: []) := C.swap
  obtain ⟨a, rfl⟩ := slice_some C2 (by simp)
  rw [onSome_some]
  have hcell := cells_elem pk_len (C2.slCells.1 a rfl).1 0 (by simp)
  refine ⟨pk.fn, pk.fl, pk.tn, pk.tl, pk.seq, pk.ack, pk.has, pk.b.q, pk.b.bs.length, pk.b.c, by simpa using hcell, ?_⟩
  have C3 := C2.perm (Bs := [lkA b.2 (lk0 2 3 1 1 5 2), pksA (some a) oc [pk], lkA b.1 (((lk0 1 1 2 3 5 2).sent nb).told 0)]) (List.perm_append_comm (l₁ := [_, _]) (l₂ := [_]))
  have hy0 : LkM m3 (lk0 2 3 1 1 5 2) := ⟨by simp, by simp⟩
  have hhe : ∀ nb', (lk0 2 3 1 1 5 2).heard pk nb' = ([nb'], ((lk0 2 3 1 1 5 2).owes pk.ack).came) := by
    intro nb'
    obtain ⟨fn, fl, tn, tl, seq, ack, has, pb⟩ := pk
    simp only [Pk.er, Pa.mk.injEq] at hpk
    obtain ⟨rfl, rfl, rfl, rfl, rfl, rfl, rfl, hbs⟩ := hpk
    rw [Lk.heard, if_neg (by simp [Lk.mine]), if_neg (by simp), if_pos rfl]
    rfl
  refine (c_Hear b.2 (lk0 2 3 1 1 5 2) pk (by simp) (by simp)).call C3 ⟨hpb, hy0⟩ fun r m4 w32 hk hm4 hr C => ⟨_, _, _, rfl, hk.size, ?_⟩
  obtain ⟨rb, rq, rc⟩ := r
  simp only [hhe] at hr C ⊢
  obtain ⟨hr1, hr2, hr3⟩ := hr
  rw [if_pos (by rfl)]
  refine ⟨by decide, by simp, ?_⟩
  have C4 : Ctx F m w w32 [] m4 (bodsA rq rc [rb] :: lkA b.2 ((lk0 2 3 1 1 5 2).owes pk.ack).came :: pksA (some a) oc [pk] :: lkA b.1 (((lk0 1 1 2 3 5 2).sent nb).told 0) :: []) := C.swap
  obtain ⟨a2, rfl⟩ := slice_some C4 (by simp)
  rw [onSome_some]
  have hbs : rb.bs = [104, 105] := by
    rw [hr1]
    have := congrArg Pa.bs hpk
    exact this
  refine ⟨rb.q, rb.bs.length, rb.c, (C4.slCells.1 a2 rfl).1 0 _ rfl, _, w32, run_body C4 (hr2 rb (by simp)), Nat.le_refl _, ?_⟩
  rw [hbs]
  have hcond : ((true && ((toBA [104, 105]).toList == (ByteArray.mk #[OfNat.ofNat 104, OfNat.ofNat 105]).toList)) == true) = true := by
    show ((true && ((toBA [104, 105]).toList == (toBA [104, 105]).toList)) == true) = true
    rw [toBA_list]; rfl
  rw [if_pos hcond]
  have hwant : ((lk0 2 3 1 1 5 2).owes pk.ack).came.want = 6 := by
    have : ((lk0 2 3 1 1 5 2).owes pk.ack) = { lk0 2 3 1 1 5 2 with owed := true } := by
      have ha : pk.ack = 5 := congrArg Pa.ack hpk
      rw [ha]; rfl
    rw [this]; rfl
  refine (c_Want b.2 _).call (As := [bodsA (some a2) rc [rb], pksA (some a) oc [pk], lkA b.1 (((lk0 1 1 2 3 5 2).sent nb).told 0)]) C4.swap trivial fun _ m5 w43 hk hm5 _ C => ⟨_, rfl, hk.size, ?_⟩
  rw [hwant, if_pos (by decide)]
  have C5 := C.perm (Bs := [lkA b.1 (((lk0 1 1 2 3 5 2).sent nb).told 0), lkA b.2 ((lk0 2 3 1 1 5 2).owes pk.ack).came, bodsA (some a2) rc [rb], pksA (some a) oc [pk]]) (List.perm_append_comm (l₁ := [_, _, _]) (l₂ := [_]))
  have hwl : (((lk0 1 1 2 3 5 2).sent nb).told 0).W.length = 1 := by
    show (Wi _ _ _).length = 1
    rw [Wi_len, hWl]; rfl
  refine (c_Waiting b.1 _).call C5 trivial fun _ m6 w46 hk hm6 _ C => ⟨_, rfl, hk.size, ?_⟩
  rw [hwl, if_pos (by decide)]
  refine (c_Idle b.1 _).call C trivial fun _ m7 w49 hk hm7 _ C => ⟨_, rfl, hk.size, ?_⟩
  rw [hwl]
  exact Ctr.ret () (by rfl) trivial (C.sub fun F hF _ => ⟨[], rfl, by simp⟩)
end Go.Proofs
