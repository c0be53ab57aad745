import Derived.Test.YtmfmihkjkgifiaaU10m
import Derived.Test.YtmfmihkjkgifiaaV10r
import Derived.Test.YtmfmihkjkgifiaaU10g
set_option linter.unusedVariables false
set_option linter.unusedSimpArgs false
set_option maxRecDepth 10000
namespace Go.Proofs
open Go X RowKit
/-! ### the document's link: the same, but a list of what came early -/
def krow (e : Int × Br) : List Value := [.int .u64 e.1, e.2.V]
theorem krow_len (e : Int × Br) : (krow e).length = 2 := rfl
theorem krow_one (e : Int × Br) : ∀ u ∈ krow e, oneC u = true := by
  intro u h
  simp only [krow, List.mem_cons, List.not_mem_nil, or_false] at h
  rcases h with rfl | rfl <;> rfl
abbrev rrowsA (p : Option Addr × Nat) (l : List Sr) : Asn := slA (.slice p.1 l.length p.2) l.length (rows l) 88 4
abbrev keptA (p : Option Addr × Nat) (l : List (Int × Br)) : Asn := slA (.slice p.1 l.length p.2) l.length (l.flatMap krow) 96 2
abbrev rlAs (b : Nat) (x : Lk) (p q : Option Addr × Nat) : List Asn := [blk b (x.row (slV p x.W.length) (slV q x.E.length)) 60, rrowsA p x.W, keptA q x.E]
def rlA (b : Nat) (x : Lk) : Asn := Asn.ex fun y : (Option Addr × Nat) × (Option Addr × Nat) => Asn.all (rlAs b x y.1 y.2)
section
variable {F0 : List Nat} {m0 : Mem} {w0 w : World} {L : List Nat} {m : Mem} {As : List Asn}
theorem rlO {b : Nat} {x : Lk} (C : Ctx F0 m0 w0 w L m (rlA b x :: As)) : ∃ p q, Ctx F0 m0 w0 w L m (rlAs b x p q ++ As) := by
  obtain ⟨⟨p, q⟩, C⟩ := C.ex
  exact ⟨p, q, C.all⟩
theorem rlI {b : Nat} {x : Lk} (p q : Option Addr × Nat) (C : Ctx F0 m0 w0 w L m (rlAs b x p q ++ As)) : Ctx F0 m0 w0 w L m (rlA b x :: As) := Ctx.exI (p, q) (Ctx.allI C)
end
theorem c_rNew (mn ml pn pl first again : Int) : Ctr Try.prog 11 #[.agg #[.int .u8 mn, .int .u16 ml], .agg #[.int .u8 pn, .int .u16 pl], .int .u64 first, .int .i64 again] noMem [] (fun b : Nat => .pointer (some ⟨b, 0, none⟩)) (fun _ _ => True) (fun b => [rlA b (lk0 mn ml pn pl first again)]) := by
  refine Ctr.mk fun w F m C _ => x_gemotref10_New _ _ _ _ _ _ w _ fun w1 L h1 g1 => ?_
  have e : (if again > 1 then again else 1) = (if (1 : Int) > again then (1 : Int) else again) := by split <;> split <;> omega
  rw [e]
  have C2 := ((C.hidL h1 g1).slNil (q := none) (ty := 96) (sz := 2)).slNil (q := none) (ty := 88) (sz := 4) |>.alloc ((lk0 mn ml pn pl first again).row (.slice none 0 0) (.slice none 0 0)) 60
  exact Ctr.ret _ rfl trivial (rlI (none, 0) (none, 0) C2)
theorem c_late (at_ now again : Int) : Gives Try.prog 33 #[.int .i64 at_, .int .i64 now, .int .i64 again] (.bool (decide (now ≥ at_) && decide ((IntKind.wrap .u64 ((IntKind.wrap .u64 now) - (IntKind.wrap .u64 at_))) ≥ (IntKind.wrap .u64 again)))) :=
  fun w => x_gemotref10_late _ _ _ w _ ⟨rfl, below_refl _ _⟩
theorem c_rSend (b : Nat) (x : Lk) (d : Br) :
    Ctr Try.prog 14 #[.pointer (some ⟨b, 0, none⟩), d.V] (fun m => BrM m d ∧ LkM m x) [rlA b x] (fun _ : Br => .int .i64 (sendE x)) (fun n m => n.bs = d.bs ∧ BrM m n ∧ LkM m (x.sent n)) (fun n => [rlA b (x.sent n)]) := by
  refine Ctr.mk fun w F m C hp => x_gemotref10_Link_Send _ d.q d.bs.length d.c w _ ?_
  obtain ⟨hd, hx⟩ := hp
  obtain ⟨p, q, C⟩ := rlO C
  refine ⟨x.next, by rw [Addr.add_mid]; exact C.blkCell (j := 5) rfl, ?_⟩
  by_cases h1 : x.next = 18446744073709551615
  · rw [if_pos (by simp [h1])]
    have e1 : sendE x = 11 := by rw [sendE, if_pos h1]
    have e2 : x.sent d = x := by rw [Lk.sent, e1, if_neg (by decide)]
    exact Ctr.ret (m' := m) d (by rw [e1]) ⟨rfl, hd, by rw [e2]; exact hx⟩ (by rw [e2]; exact rlI p q C)
  rw [if_neg (by simpa using h1)]
  refine ⟨p.1, x.W.length, p.2, by rw [Addr.add_mid]; exact C.blkCell (j := 7) rfl, ?_⟩
  by_cases h2 : 32 ≤ x.W.length
  · rw [if_pos (by simp; omega)]
    have e1 : sendE x = 10 := by rw [sendE, if_neg h1, if_pos h2]
    have e2 : x.sent d = x := by rw [Lk.sent, e1, if_neg (by decide)]
    exact Ctr.ret (m' := m) d (by rw [e1]) ⟨rfl, hd, by rw [e2]; exact hx⟩ (by rw [e2]; exact rlI p q C)
  rw [if_neg (by simp; omega)]
  have e1 : sendE x = 0 := by rw [sendE, if_neg h1, if_neg h2]
  have hf : ∀ {w' L'} {As : List Asn} {m' : Mem}, Ctx F m w w' L' m' (blk b (x.row (slV p x.W.length) (slV q x.E.length)) 60 :: As) → FactsW [(⟨b, 7, none⟩, [slV p x.W.length]), (⟨b, 5, none⟩, [.int .u64 x.next])] w' L' := fun C => C.blkFact1 7 _ rfl (C.blkFact1 5 _ rfl (facts_nil _ _))
  refine ⟨_, hf C, p.1, x.W.length, p.2, by simp [Addr.add_mid, slV], x.next, by simp [Addr.add_mid], fun w10 h10 => ?_⟩
  have C1 := (C.hid0 h10).newDrop [] 5
  obtain ⟨nb, m2, w14, hn1, hm2, hn2, hr, hk, C2⟩ := app_bytes C1 d hd (some ⟨w10.heap.size, 0, none⟩)
  refine ⟨hf C1, nb.q, nb.bs.length, nb.c, w14, hr, hk.size, hf C2, ?_⟩
  have C3 := C2.alloc (Sr.row ⟨x.next, nb, false, 0⟩) 88
  refine ⟨hf C3.swap, ?_⟩
  have hcell : Cells (w14.alloc (.cells (Sr.row ⟨x.next, nb, false, 0⟩).toArray 88)) ⟨w14.heap.size, 0, none⟩ (Sr.row ⟨x.next, nb, false, 0⟩) := C3.blkCells fun j v e => by rw [Nat.zero_add]; exact e
  have C4 := C3.pm [2, 0, 1, 3] rfl
  simp only [sel, nth, List.append_nil, List.cons_append, List.nil_append] at C4
  obtain ⟨q2, c2, w18, hr2, hk2, C5⟩ := C4.app (P := Try.prog) (bytes := 64) (t := 57) (t2 := 57) 57 (by kernel_rfl) (.some ⟨w14.heap.size, 0, none⟩ 1 1 (Sr.row ⟨x.next, nb, false, 0⟩) rfl hcell) (by omega) (row_one _)
  have C6 := C5.pk [2, 0, 3] [1] rfl
  simp only [sel, nth] at C6
  refine ⟨q2, x.W.length + 1, c2, w18, hr2, hk2.size, hf C6, rfl, C6.there 7 1 (by simp), ?_⟩
  have C7 := C6.store 7 [.slice q2 (x.W.length + 1) c2] (by simp)
  refine ⟨x.next, by rw [Addr.add_mid]; exact C7.blkCell (j := 5) rfl, rfl, C7.there 5 1 (by simp [splice]), ?_⟩
  have C8 := C7.store 5 [.int .u64 (IntKind.wrap .u64 (x.next + 1))] (by simp [splice])
  have e2 := sent0 x nb e1
  refine Ctr.ret (m' := m2) (L := []) nb (by rw [e1]) ⟨hn1, hn2, by rw [e2]; exact ⟨fun s hs => by
    rcases List.mem_append.1 hs with hs | hs
    · exact (hx.mono hm2).1 s hs
    · simp only [List.mem_singleton] at hs; subst hs; exact hn2, (hx.mono hm2).2⟩⟩ ?_
  rw [e2]
  refine rlI (q2, c2) q ?_
  have e3 : (x.W ++ [(⟨x.next, nb, false, 0⟩ : Sr)]).length = x.W.length + 1 := by simp
  have e4 : rows (x.W ++ [(⟨x.next, nb, false, 0⟩ : Sr)]) = rows x.W ++ Sr.row ⟨x.next, nb, false, 0⟩ := by rw [rows_append]; simp [rows]
  simp only [rlAs, rrowsA]
  rw [e3, e4]
  exact C8
abbrev rpksA (q : Option Addr) (c : Nat) (l : List Pk) : Asn := slA (.slice q l.length c) l.length (l.flatMap Pk.row) 37 8
theorem c_rOut (b : Nat) (x : Lk) (now : Int) (hW : x.W.length ≤ 32) :
    Ctr Try.prog 17 #[.pointer (some ⟨b, 0, none⟩), .int .i64 now] (fun m => LkM m x) [rlA b x] (fun i : List Pk × Option Addr × Nat => .slice i.2.1 i.1.length i.2.2)
      (fun i m => i.1.map Pk.er = x.outs now ∧ (∀ p ∈ i.1, BrM m p.b) ∧ LkM m (x.told now)) (fun i => [rlA b (x.told now), rpksA i.2.1 i.2.2 i.1]) := by
  refine Ctr.mk fun w F m C hx => x_gemotref10_Link_Out _ now w _ ?_
  obtain ⟨p, q, C⟩ := rlO C
  let Bk : Asn := blk b (x.row (slV p x.W.length) (slV q x.E.length)) 60
  let Ws : Nat → Asn := fun i => slA (slV p x.W.length) x.W.length (rows (Wi (tellB x.again now) x.W i)) 88 4
  let I : Option Addr → Nat → Nat → Int → World → List Nat → Prop := fun qo k kc n w' L' => ∃ (i : Nat) (out : List Pk), n = i ∧ k = out.length ∧ i ≤ min 8 x.W.length ∧ out.length ≤ i ∧ out.map Pk.er = x.dues now i ∧ (∀ p ∈ out, BrM m p.b) ∧
    Ctx F m w w' L' m [Bk, Ws i, rpksA qo kc out, keptA q x.E]
  refine ⟨I, fun _ _ _ n _ => (8 - n).toNat, ⟨0, [], rfl, rfl, by omega, by simp, by simp [Lk.dues], by simp, ?_⟩, ?_⟩
  · have C2 := (C.slNil (q := none) (ty := 37) (sz := 8)).pm [1, 2, 0, 3] rfl
    exact C2
  rintro qo k kc n w7 L8 _ ⟨i, out, rfl, rfl, hi, hol, hout, hbr, D⟩
  have D := D.noL
  have hcell : ∀ {w' L'} {As' : List Asn}, Ctx F m w w' L' m (Bk :: As') → World.cell? w' ((⟨b, 0, none⟩ : Addr).add 7) = some (slV p x.W.length) := fun D => by rw [Addr.add_mid]; exact D.blkCell (j := 7) rfl
  refine ⟨p.1, x.W.length, p.2, hcell D, ?_⟩
  by_cases hlt : i < min 8 x.W.length
  · rw [if_pos (by simp; omega)]
    have hiW : i < x.W.length := by omega
    have hiW' : i < (Wi (tellB x.again now) x.W i).length := by rw [Wi_len]; exact hiW
    obtain ⟨a, ha⟩ := slice_some D.swap (rows_ne hiW')
    have hce := (D.swap.slCells.1 a ha)
    have hcl := cells_elem row_len hce.1 i hiW'
    rw [Wi_get _ _ _ hiW hiW'] at hcl
    refine ⟨p.1, x.W.length, p.2, hcell D, by omega, by omega, ?_⟩
    rw [ha, onSome_some]
    have en : IntKind.wrap .i64 ((i : Int) + 1) = ((i + 1 : Nat) : Int) := by rw [w_i64 (by omega) (by omega)]; omega
    have hmeas : ((8 : Int) - ((i + 1 : Nat) : Int)).toNat + 1 ≤ ((8 : Int) - (i : Int)).toNat := by omega
    -- one is told
    have tell : ∀ {w' : World} {L' : List Nat}, dueB x.again now x.W[i] = true → Ctx F m w w' L' m [Bk, Ws i, rpksA qo kc out, keptA q x.E] → 
        a.spot = none ∧ World.there w' (a.add (i * 4)).block ((a.add (i * 4)).off + 2) 1 ∧ (a.add (i * 4)).block ∉ L' ∧
        World.cell? (w'.setCells (a.add (i * 4)).block ((a.add (i * 4)).off + 2) [.bool true]) ((⟨b, 0, none⟩ : Addr).add 7) = some (slV p x.W.length) ∧ b ∉ L' ∧
        World.there (w'.setCells (a.add (i * 4)).block ((a.add (i * 4)).off + 2) [.bool true]) (a.add (i * 4)).block ((a.add (i * 4)).off + 3) 1 ∧
        Ctx F m w ((w'.setCells (a.add (i * 4)).block ((a.add (i * 4)).off + 2) [.bool true]).setCells (a.add (i * 4)).block ((a.add (i * 4)).off + 3) [.int .i64 now]) L' m [Bk, Ws (i + 1), rpksA qo kc out, keptA q x.E] := by
      intro w' L' hdue D
      have hrl := rows_len (Wi (tellB x.again now) x.W i)
      rw [Wi_len] at hrl
      have D0 := D.swap
      simp only [Ws, slV, ha] at D0
      obtain ⟨hsp, hth, hnl, D2⟩ := slSet D0 (i * 4 + 2) (by omega) (.bool true)
      obtain ⟨_, hth2, hnl2, D3⟩ := slSet D2 (i * 4 + 3) (by rw [List.length_set]; omega) (.int .i64 now)
      obtain ⟨ab, ao, sp⟩ := a
      simp only at hsp; subst hsp
      simp only [Addr.add_mid, Nat.add_assoc]
      refine ⟨trivial, hth, hnl, hcell D2.swap, D2.swap.blkAt.2, hth2, ?_⟩
      have eR : ((rows (Wi (tellB x.again now) x.W i)).set (i * 4 + 2) (.bool true)).set (i * 4 + 3) (.int .i64 now) = rows (Wi (tellB x.again now) x.W (i + 1)) := by
        have hg := Wi_get (tellB x.again now) x.W i hiW hiW'
        rw [Wi_succ _ _ _ hiW]
        generalize Wi (tellB x.again now) x.W i = V at hiW' hg
        rw [← rows_set V i hiW' { x.W[i] with told := true } 2 (by omega) (.bool true) (by rw [hg]; rfl)]
        rw [← rows_set (V.set i { x.W[i] with told := true }) i (by simpa using hiW') { x.W[i] with told := true, at_ := now } 3 (by omega) (.int .i64 now) (by simp [Sr.row]), List.set_set]
        unfold tellB; rw [if_pos hdue]
      rw [eR] at D3
      simp only [Ws, slV, ha]
      exact D3.swap
    -- its packet
    have pack : ∀ {w51 : World} {L52 : List Nat}, dueB x.again now x.W[i] = true → Ctx F m w w51 L52 m [Bk, Ws (i + 1), rpksA qo kc out, keptA q x.E] →
        FactsW [(⟨b, 0, none⟩, [.int .u8 x.mn, .int .u16 x.ml]), (⟨b, 2, none⟩, [.int .u8 x.pn, .int .u16 x.pl]), (⟨b, 6, none⟩, [.int .u64 x.want])] (w51.alloc (.cells (Pk.row ⟨x.mn, x.ml, x.pn, x.pl, x.W[i].seq, x.want, true, x.W[i].b⟩).toArray 37)) L52 ∧
        ∃ q53 c55 w56, (Builtin.append_ #[47, 47] 47 #[.slice qo out.length kc, .slice (some ⟨w51.heap.size, 0, none⟩) 1 1]).run Try.prog (w51.alloc (.cells (Pk.row ⟨x.mn, x.ml, x.pn, x.pl, x.W[i].seq, x.want, true, x.W[i].b⟩).toArray 37)) = .ok (.slice q53 (out.length + 1) c55) w56 ∧
          Kept L52 (w51.alloc (.cells (Pk.row ⟨x.mn, x.ml, x.pn, x.pl, x.W[i].seq, x.want, true, x.W[i].b⟩).toArray 37)) w56 ∧ FactsW [(⟨b, 0, none⟩, [.int .u8 x.mn, .int .u16 x.ml]), (⟨b, 2, none⟩, [.int .u8 x.pn, .int .u16 x.pl]), (⟨b, 6, none⟩, [.int .u64 x.want])] w56 L52 ∧
          I q53 (out.length + 1) c55 ((i + 1 : Nat) : Int) w56 L52 := by
      intro w51 L52 hdue D
      have hf : ∀ {w' L'} {As : List Asn}, Ctx F m w w' L' m (Bk :: As) → FactsW [(⟨b, 0, none⟩, [.int .u8 x.mn, .int .u16 x.ml]), (⟨b, 2, none⟩, [.int .u8 x.pn, .int .u16 x.pl]), (⟨b, 6, none⟩, [.int .u64 x.want])] w' L' := fun C =>
        C.blkFact 0 _ (fun j v e => by match j, e with | 0, e => exact e | 1, e => exact e) (C.blkFact 2 _ (fun j v e => by match j, e with | 0, e => exact e | 1, e => exact e) (C.blkFact1 6 _ rfl (facts_nil _ _)))
      have D6 := D.alloc (Pk.row ⟨x.mn, x.ml, x.pn, x.pl, x.W[i].seq, x.want, true, x.W[i].b⟩) 37
      have hcl : Cells (w51.alloc (.cells (Pk.row ⟨x.mn, x.ml, x.pn, x.pl, x.W[i].seq, x.want, true, x.W[i].b⟩).toArray 37)) ⟨w51.heap.size, 0, none⟩ (Pk.row ⟨x.mn, x.ml, x.pn, x.pl, x.W[i].seq, x.want, true, x.W[i].b⟩) := D6.blkCells fun j v e => by rw [Nat.zero_add]; exact e
      refine ⟨hf D6.swap, ?_⟩
      have D7 := D6.pm [3, 0, 1, 2, 4] rfl
      simp only [sel, nth] at D7
      obtain ⟨q2, c2, w68, hr, hkk, D8⟩ := Ctx.app (P := Try.prog) (bytes := 200) (t := 47) (t2 := 47) D7 47 (by kernel_rfl) (.some ⟨w51.heap.size, 0, none⟩ 1 1 (Pk.row ⟨x.mn, x.ml, x.pn, x.pl, x.W[i].seq, x.want, true, x.W[i].b⟩) rfl hcl) (by omega) (pk_one _)
      have D9 := D8.pk [2, 3, 0, 4] [1] rfl
      simp only [sel, nth] at D9
      refine ⟨q2, c2, w68, hr, hkk, hf D9, i + 1, out ++ [⟨x.mn, x.ml, x.pn, x.pl, x.W[i].seq, x.want, true, x.W[i].b⟩], rfl, by simp, by omega, by simp; omega, ?_, fun p hp => ?_, ?_⟩
      · rw [dues_succ _ _ _ hiW, if_pos hdue, List.map_append, hout]
        simp [Pk.er, Lk.pk]
      · rcases List.mem_append.1 hp with hp | hp
        · exact hbr p hp
        · simp only [List.mem_singleton] at hp; subst hp; exact hx.1 _ (List.getElem_mem hiW)
      · have e1 : (out ++ [(⟨x.mn, x.ml, x.pn, x.pl, x.W[i].seq, x.want, true, x.W[i].b⟩ : Pk)]).length = out.length + 1 := by simp
        have e2 : (out ++ [(⟨x.mn, x.ml, x.pn, x.pl, x.W[i].seq, x.want, true, x.W[i].b⟩ : Pk)]).flatMap Pk.row = out.flatMap Pk.row ++ Pk.row ⟨x.mn, x.ml, x.pn, x.pl, x.W[i].seq, x.want, true, x.W[i].b⟩ := by simp
        unfold rpksA
        rw [e1, e2]
        exact D9
    refine ⟨_, _, _, _, _, _, hcl, ?_⟩
    refine ⟨[(⟨b, 4, none⟩, [.int .i64 x.again])], D.blkFact1 4 _ rfl (facts_nil _ _), ?_⟩
    by_cases htold : x.W[i].told = true
    · rw [if_pos (by rw [htold]; rfl)]
      refine ⟨x.again, by simp [Addr.add_mid], fun w58 L59 h58 g58 => ?_⟩
      replace D := D.hidL h58 g58
      refine D.gives (c_late x.W[i].at_ now x.again) fun w61 k61 D => ⟨_, rfl, k61, D.blkFact1 4 _ rfl (facts_nil _ _), ?_⟩
      have hdu : dueB x.again now x.W[i] = (decide (now ≥ x.W[i].at_) && decide ((IntKind.wrap .u64 ((IntKind.wrap .u64 now) - (IntKind.wrap .u64 x.W[i].at_))) ≥ (IntKind.wrap .u64 x.again))) := by rw [dueB, htold]; rfl
      rw [← hdu]
      by_cases hdue : dueB x.again now x.W[i] = true
      rotate_left
      · rw [if_pos (by simpa using hdue), en]
        refine ⟨⟨i + 1, out, rfl, rfl, by omega, by omega, by rw [dues_succ _ _ _ hiW, if_neg hdue, List.append_nil]; exact hout, hbr, ?_⟩, hmeas⟩
        have e : Wi (tellB x.again now) x.W (i + 1) = Wi (tellB x.again now) x.W i := by
          rw [Wi_succ _ _ _ hiW]
          have : tellB x.again now x.W[i] = (Wi (tellB x.again now) x.W i)[i] := by rw [Wi_get _ _ _ hiW hiW', tellB, if_neg hdue]
          rw [this, List.set_getElem_self]
        simp only [Ws]; rw [e]; exact D
      · rw [if_neg (by simpa using hdue)]
        obtain ⟨t1, t2, t3, t4, t5, t6, D2⟩ := tell hdue D
        refine ⟨p.1, x.W.length, p.2, hcell D, t5, by omega, by omega, ?_⟩
        rw [ha, onSome_some]
        refine ⟨rfl, t2, t3, p.1, x.W.length, p.2, t4, t5, by omega, by omega, ?_⟩
        rw [ha, onSome_some]
        refine ⟨rfl, t6, t3, [(⟨b, 0, none⟩, [.int .u8 x.mn, .int .u16 x.ml]), (⟨b, 2, none⟩, [.int .u8 x.pn, .int .u16 x.pl]), (⟨b, 6, none⟩, [.int .u64 x.want])], ?_, x.mn, x.ml, by simp [Addr.add_mid], x.pn, x.pl, by simp [Addr.add_mid], x.want, by simp [Addr.add_mid], fun w77 L78 h77 g77 => ?_⟩
        · exact D2.blkFact 0 _ (fun j v e => by match j, e with | 0, e => exact e | 1, e => exact e) (D2.blkFact 2 _ (fun j v e => by match j, e with | 0, e => exact e | 1, e => exact e) (D2.blkFact1 6 _ rfl (facts_nil _ _)))
        obtain ⟨k1, q53, c55, w56, k2, k3, k4, k5⟩ := pack hdue (D2.hidL h77 g77)
        rw [en]
        exact ⟨k1, q53, _, c55, w56, k2, k3, k4, k5, hmeas⟩
    · have hdue : dueB x.again now x.W[i] = true := by rw [dueB]; simp [htold]
      rw [if_neg (by simpa using htold)]
      refine ⟨p.1, x.W.length, p.2, hcell D, by omega, by omega, ?_⟩
      rw [ha, onSome_some]
      intro w39 L40 h39 g39
      obtain ⟨t1, t2, t3, t4, t5, t6, D2⟩ := tell hdue (D.hidL h39 g39)
      refine ⟨rfl, t2, t3, p.1, x.W.length, p.2, t4, t5, by omega, by omega, ?_⟩
      rw [ha, onSome_some]
      refine ⟨rfl, t6, t3, [(⟨b, 0, none⟩, [.int .u8 x.mn, .int .u16 x.ml]), (⟨b, 2, none⟩, [.int .u8 x.pn, .int .u16 x.pl]), (⟨b, 6, none⟩, [.int .u64 x.want])], ?_, x.mn, x.ml, by simp [Addr.add_mid], x.pn, x.pl, by simp [Addr.add_mid], x.want, by simp [Addr.add_mid], fun w77 L78 h77 g77 => ?_⟩
      · exact D2.blkFact 0 _ (fun j v e => by match j, e with | 0, e => exact e | 1, e => exact e) (D2.blkFact 2 _ (fun j v e => by match j, e with | 0, e => exact e | 1, e => exact e) (D2.blkFact1 6 _ rfl (facts_nil _ _)))
      obtain ⟨k1, q53, c55, w56, k2, k3, k4, k5⟩ := pack hdue (D2.hidL h77 g77)
      rw [en]
      exact ⟨k1, q53, _, c55, w56, k2, k3, k4, k5, hmeas⟩
  · rw [if_neg (by simp; omega)]
    have hi8 : i = min 8 x.W.length := by omega
    rw [hi8] at hout D
    rw [dues_min] at hout
    simp only [Ws] at D
    rw [Wi_min] at D
    have hx' : LkM m (x.told now) := ⟨fun s hs => by
      obtain ⟨t, ht, e⟩ := Wi_mem (tellB_b _ _) hs
      rw [e]; exact hx.1 t ht, hx.2⟩
    have hlen : (x.told now).W.length = x.W.length := Wi_len _ _ _
    have fin : ∀ {w' : World} {qo kc} {out : List Pk}, Ctx F m w w' [] m [Bk, slA (slV p x.W.length) x.W.length (rows (Wi (tellB x.again now) x.W 8)) 88 4, rpksA qo kc out, keptA q x.E] → Ctx F m w (w'.setCells b 9 [.bool false]) [] m [rlA b (x.told now), rpksA qo kc out] := fun D => by
      have D1 := (D.store 9 [.bool false] (by simp)).pm [0, 1, 3, 2] rfl
      refine rlI p q ?_
      simp only [rlAs, rrowsA]
      rw [hlen]
      exact D1
    by_cases h0 : out.length = 0
    · rw [if_pos (by simpa using h0)]
      have hnil : out = [] := List.eq_nil_of_length_eq_zero h0
      subst hnil
      refine ⟨x.owed, by rw [Addr.add_mid]; exact D.blkCell (j := 9) rfl, ?_⟩
      by_cases ho : x.owed = true
      · rw [if_pos (by rw [ho]; rfl)]
        have hf : ∀ {w' L'} {As : List Asn}, Ctx F m w w' L' m (Bk :: As) → FactsW [(⟨b, 0, none⟩, [.int .u8 x.mn, .int .u16 x.ml]), (⟨b, 2, none⟩, [.int .u8 x.pn, .int .u16 x.pl]), (⟨b, 6, none⟩, [.int .u64 x.want])] w' L' := fun C =>
          C.blkFact 0 _ (fun j v e => by match j, e with | 0, e => exact e | 1, e => exact e) (C.blkFact 2 _ (fun j v e => by match j, e with | 0, e => exact e | 1, e => exact e) (C.blkFact1 6 _ rfl (facts_nil _ _)))
        refine ⟨_, hf D, x.mn, x.ml, by simp [Addr.add_mid], x.pn, x.pl, by simp [Addr.add_mid], x.want, by simp [Addr.add_mid], fun w19 h19 => ?_⟩
        have D5 := D.hid0 h19
        have D6 := D5.alloc (Pk.row ⟨x.mn, x.ml, x.pn, x.pl, 0, x.want, false, ⟨[], none, 0⟩⟩) 37
        have hcl : Cells (w19.alloc (.cells (Pk.row ⟨x.mn, x.ml, x.pn, x.pl, 0, x.want, false, ⟨[], none, 0⟩⟩).toArray 37)) ⟨w19.heap.size, 0, none⟩ (Pk.row ⟨x.mn, x.ml, x.pn, x.pl, 0, x.want, false, ⟨[], none, 0⟩⟩) := D6.blkCells fun j v e => by rw [Nat.zero_add]; exact e
        refine ⟨hf D6.swap, ?_⟩
        have D7 := D6.pm [3, 0, 1, 2, 4] rfl
        simp only [sel, nth] at D7
        obtain ⟨q2, c2, w23, hr, hkk, D8⟩ := Ctx.app (P := Try.prog) (bytes := 200) (t := 47) (t2 := 47) D7 47 (by kernel_rfl) (.some ⟨w19.heap.size, 0, none⟩ 1 1 (Pk.row ⟨x.mn, x.ml, x.pn, x.pl, 0, x.want, false, ⟨[], none, 0⟩⟩) rfl hcl) (by simp) (pk_one _)
        have D9 := D8.pk [2, 3, 0, 4] [1] rfl
        simp only [sel, nth] at D9
        refine ⟨q2, 1, c2, w23, hr, hkk.size, hf D9, rfl, D9.there 9 1 (by simp), ?_⟩
        refine Ctr.ret (m' := m) (L := []) ([⟨x.mn, x.ml, x.pn, x.pl, 0, x.want, false, ⟨[], none, 0⟩⟩], q2, c2) rfl ⟨?_, ?_, hx'⟩ (fin D9)
        · have hd0 : x.dues now 8 = [] := by rw [← hout]; rfl
          rw [Lk.outs, if_pos (by rw [hd0, ho]; rfl)]
          rfl
        · intro p hp
          simp only [List.mem_singleton] at hp; subst hp
          exact ⟨.nil .., by simp⟩
      · rw [if_neg (by simpa using ho)]
        refine ⟨rfl, D.there 9 1 (by simp), ?_⟩
        exact Ctr.ret (m' := m) (L := []) ([], qo, kc) rfl ⟨by rw [hout, Lk.outs, if_neg (by simp [ho])], by simp, hx'⟩ (fin D)
    · rw [if_neg (by simpa using h0)]
      refine ⟨rfl, D.there 9 1 (by simp), ?_⟩
      refine Ctr.ret (m' := m) (L := []) (out, qo, kc) rfl ⟨?_, hbr, hx'⟩ (fin D)
      rw [hout, Lk.outs, if_neg]
      rw [← hout]
      simp only [Bool.and_eq_true, List.isEmpty_iff, List.map_eq_nil_iff]
      rintro ⟨rfl, _⟩; exact h0 rfl
end Go.Proofs
