import Derived.Test.YtpijekgiblcfhaaU14k
set_option linter.unusedVariables false
set_option linter.unusedSimpArgs false
set_option maxRecDepth 10000
namespace Go.Proofs
open Go X RowKit
def putR (F : List Fr) (p : Int × Int) (n : Int) : List Fr := (p, n) :: F.filter (fun x => !(x.1 == p))
def raiseR (r : Rt) (p : Int × Int) (n : Int) : Rt := if rightP p.1 p.2 && decide (n ≤ 1048576) && decide (n > floorF r.F p) then { r with F := putR r.F p n, L := r.L.filter (fun x => !pastF (putR r.F p n) p x.id x) } else r
theorem fr_one (x : Fr) : ∀ u ∈ frow x, oneC u = true := by intro u h; simp [frow] at h; rcases h with rfl | rfl | rfl <;> rfl
section
variable {F0 : List Nat} {m0 : Mem} {w0 w : World} {L : List Nat} {m : Mem} {As : List Asn} {A0 A1 A2 : Asn}
theorem app_oneF {out : List Fr} {q : Option Addr} {c : Nat} (x : Fr) {a1 : Nat} (ho : out.length ≤ 100001) (C : Ctx F0 m0 w0 w L m (frsA (q, c) out :: As)) (hc : Cells w ⟨a1, 0, none⟩ (frow x)) :
    ∃ q1 c1 w2, (Builtin.append_ #[80, 80] 80 #[.slice q out.length c, .slice (some ⟨a1, 0, none⟩) 1 1]).run Try.prog w = .ok (.slice q1 (out ++ [x]).length c1) w2 ∧ Kept L w w2 ∧ Ctx F0 m0 w0 w2 L m (frsA (q1, c1) (out ++ [x]) :: As) := by
  obtain ⟨q1, c1, w2, hr, hkk, C2⟩ := Ctx.app (P := Try.prog) (bytes := 200) (t := 80) (t2 := 80) C 80 (by kernel_rfl) (.some _ 1 1 (frow x) rfl hc) (by omega) (fr_one _)
  have e1 : (out ++ [x]).length = out.length + 1 := by simp
  have e2 : (out ++ [x]).flatMap frow = out.flatMap frow ++ frow x := by simp
  refine ⟨q1, c1, w2, by rw [e1]; exact hr, hkk, ?_⟩
  unfold frsA slV
  rw [e1, e2]
  exact C2
theorem app_oneR {out : List Rw} {q : Option Addr} {c : Nat} (x : Rw) {a1 : Nat} (ho : out.length ≤ 100001) (C : Ctx F0 m0 w0 w L m (rwsA (q, c) out :: As)) (hc : Cells w ⟨a1, 0, none⟩ x.row) :
    ∃ q1 c1 w2, (Builtin.append_ #[79, 79] 79 #[.slice q out.length c, .slice (some ⟨a1, 0, none⟩) 1 1]).run Try.prog w = .ok (.slice q1 (out ++ [x]).length c1) w2 ∧ Kept L w w2 ∧ Ctx F0 m0 w0 w2 L m (rwsA (q1, c1) (out ++ [x]) :: As) := by
  obtain ⟨q1, c1, w2, hr, hkk, C2⟩ := Ctx.app (P := Try.prog) (bytes := 200) (t := 79) (t2 := 79) C 79 (by kernel_rfl) (.some _ 1 1 x.row rfl hc) (by omega) (rw_one _)
  have e1 : (out ++ [x]).length = out.length + 1 := by simp
  have e2 : (out ++ [x]).flatMap Rw.row = out.flatMap Rw.row ++ x.row := by simp
  refine ⟨q1, c1, w2, by rw [e1]; exact hr, hkk, ?_⟩
  unfold rwsA slV
  rw [e1, e2]
  exact C2
end
theorem filter_take {α : Type} (f : α → Bool) (l : List α) (j : Nat) (h : j < l.length) : (l.take (j + 1)).filter f = (l.take j).filter f ++ (if f l[j] then [l[j]] else []) := by
  rw [List.take_succ_eq_append_getElem h, List.filter_append]
  congr 1
  cases hf : f l[j] <;> simp [hf]
theorem filter_lt {α : Type} (f : α → Bool) (l : List α) (j : Nat) : ((l.take j).filter f).length ≤ l.length := Nat.le_trans (List.length_filter_le _ _) (by rw [List.length_take]; omega)
theorem putR_len (F : List Fr) (p : Int × Int) (n : Int) : (putR F p n).length ≤ F.length + 1 := by
  rw [putR, List.length_cons]; have := List.length_filter_le (fun x : Fr => !(x.1 == p)) F; omega
theorem c_rRaise (b : Nat) (r : Rt) (p : Int × Int) (n : Int) (hr : r.Ok) (hfl : r.F.length < 100000) : Ctr Try.prog 27 #[.pointer (some ⟨b, 0, none⟩), pkV p, .int .u32 n] noMem [rtA b r] (fun _ : Unit => .tuple #[]) (fun _ _ => True) (fun _ => [rtA b (raiseR r p n)]) := by
  refine Ctr.mk fun w F m C _ => x_rRaise _ _ _ _ w _ fun w1 L2 h1 g1 => ?_
  refine (C.hidL h1 g1).gives (c_ref_RightProc p.1 p.2) fun w4 k4 C => ⟨_, rfl, k4, ?_⟩
  by_cases h1 : rightP p.1 p.2 = true ∧ n ≤ 1048576
  rotate_left
  · rw [if_neg (by
      intro hc
      apply h1
      simp only [beq_iff_eq, Bool.or_eq_false_iff, Bool.not_eq_false', decide_eq_false_iff_not] at hc
      exact ⟨hc.1, by omega⟩)]
    have e : raiseR r p n = r := by
      rw [raiseR, if_neg]
      intro hc
      simp only [Bool.and_eq_true, decide_eq_true_eq] at hc
      exact h1 hc.1
    rw [e]; exact Ctr.ret () rfl trivial C
  obtain ⟨hrp, hn⟩ := h1
  rw [if_pos (by rw [hrp]; simp; omega)]
  refine (c_rFloor b r p hr).call (As := []) C trivial fun _ m2 w7 hk hm _ C => ⟨_, rfl, hk, ?_⟩
  by_cases h2 : n ≤ floorF r.F p
  · rw [if_pos (by simpa using h2)]
    have e : raiseR r p n = r := by
      rw [raiseR, if_neg]
      intro hc
      simp only [Bool.and_eq_true, decide_eq_true_eq] at hc
      have := hc.2; omega
    rw [e]; exact Ctr.ret () rfl trivial C
  rw [if_neg (by simpa using h2)]
  have hn0 : 0 ≤ n := by have := (floor_in hr.f p).1; omega
  have er : raiseR r p n = { r with F := putR r.F p n, L := r.L.filter (fun x => !pastF (putR r.F p n) p x.id x) } := by
    rw [raiseR, if_pos]
    simp only [Bool.and_eq_true, decide_eq_true_eq]
    exact ⟨⟨hrp, hn⟩, by omega⟩
  rw [er]
  obtain ⟨s, q, C⟩ := rtO C
  replace C : Ctx F m w w7 L2 m2 (rtAs b r s q) := C
  have C1 := Ctx.slNew (cs := frow (p, n)) (n := 1) (ty := 96) (sz := 3) rfl (by decide) C
  have hll := hr.ll
  refine ⟨fun q1 k c1 i w' L' => ∃ (j : Nat), i = j ∧ j ≤ r.F.length ∧ k = ((p, n) :: (r.F.take j).filter (fun x => !(x.1 == p))).length ∧ Ctx F m w w' L' m2 (rtAs b r s q ++ [frsA (q1, c1) ((p, n) :: (r.F.take j).filter (fun x => !(x.1 == p)))]), fun _ _ _ i _ => (r.F.length - i).toNat,
    ⟨0, rfl, by omega, rfl, C1.rot⟩, ?_⟩
  clear C C1
  rintro q1 k c1 i w15 L16 _ ⟨j, rfl, hj, rfl, D⟩
  have hcell : ∀ {w' L' m'} {r : Rt} {q : Sl} {As : List Asn}, Ctx F m w w' L' m' (blk b (r.cells s q) 82 :: As) → w'.cell? ((⟨b, 0, none⟩ : Addr).add 2) = some (slV q r.F.length) ∧ (⟨b, 0, none⟩ : Addr).block ∉ L' := fun D => ⟨by rw [Addr.add_mid]; exact D.blkCell (j := 2) rfl, D.blkAt.2⟩
  refine ⟨_, _, _, (hcell D).1, (hcell D).2, ?_⟩
  by_cases hjl : j < r.F.length
  · rw [if_pos (by simpa using hjl)]
    refine ⟨_, _, _, (hcell D).1, (hcell D).2, by omega, by simpa using hjl, ?_⟩
    obtain ⟨pa, hpa, hc, hcb⟩ := sl_elem fr_len (by decide) (D.pm [2, 0, 1, 3] rfl) hjl
    rw [hpa, onSome_some]
    refine ⟨r.F[j].1.1, r.F[j].1.2, by rw [Int.toNat_natCast]; exact cells_part hc 0 _ (fun k v h => by rw [Nat.zero_add]; match k, h with | 0, h | 1, h => exact h), by rw [Int.toNat_natCast, Addr.add_zero']; exact hcb, ?_⟩
    have e : IntKind.wrap .i64 ((j : Int) + 1) = ((j + 1 : Nat) : Int) := by rw [w_i64 (by omega) (by omega)]; omega
    have hm : Nat.le (((r.F.length : Int) - ((j + 1 : Nat) : Int)).toNat + 1) ((r.F.length : Int) - (j : Int)).toNat := Nat.le_of_eq (by omega)
    have hft := filter_take (fun x : Fr => !(x.1 == p)) r.F j hjl
    have hlt := filter_lt (fun x : Fr => !(x.1 == p)) r.F j
    by_cases he : r.F[j].1 = p
    · rw [if_neg (by rw [he]; simp)]
      intro w69 L70 h69 g69
      rw [e]
      rw [if_neg (by simp [he]), List.append_nil] at hft
      exact ⟨rfl, ⟨j + 1, rfl, hjl, by rw [hft], by rw [hft]; exact D.hidL h69 g69⟩, hm⟩
    · have hb : (((r.F[j].1.1 == p.1) && (r.F[j].1.2 == p.2)) = true) ↔ r.F[j].1 = p := by
        simp only [Bool.and_eq_true, beq_iff_eq]
        exact ⟨fun h => Prod.ext h.1 h.2, fun h => by rw [h]; exact ⟨rfl, rfl⟩⟩
      have hbf : ((r.F[j].1.1 == p.1) && (r.F[j].1.2 == p.2)) = false := by
        rw [← Bool.not_eq_true, hb]; exact he
      rw [if_pos (by rw [hbf]; rfl)]
      refine ⟨_, _, _, (hcell D).1, (hcell D).2, by omega, by simpa using hjl, ?_⟩
      rw [hpa, onSome_some]
      refine ⟨_, _, _, by rw [Int.toNat_natCast]; exact hc, by rw [Int.toNat_natCast]; exact hcb, fun w78 L79 h78 g78 => ?_⟩
      have D1 := (D.hidL h78 g78).alloc (frow r.F[j]) 96
      have hcl : Cells _ ⟨w78.heap.size, 0, none⟩ (frow r.F[j]) := D1.blkCells (o := 0) fun j v e => by simpa using e
      obtain ⟨q2, c2, w83, hr2, hk2, D2⟩ := app_oneF r.F[j] (by rw [List.length_cons]; omega) (D1.pm [4, 1, 2, 3, 0] rfl) hcl
      rw [if_pos (by simp [he])] at hft
      rw [List.cons_append, ← hft] at D2 hr2
      refine ⟨q2, _, c2, w83, hr2, hk2, rfl, ?_, ?_⟩
      · rw [e]; exact ⟨j + 1, rfl, hjl, rfl, D2.pk [1, 2, 3, 0] [4] rfl⟩
      · rw [e]; exact hm
  rw [if_neg (by simpa using hjl)]
  have hjj : j = r.F.length := by omega
  rw [hjj, List.take_length] at D
  rw [hjj, List.take_length]
  clear hjj hjl hj
  change Ctx F m w w15 L16 m2 [blk b (r.cells s q) 82, rwsA s r.L, frsA q r.F, frsA (q1, c1) (putR r.F p n)] at D
  refine ⟨rfl, D.there _ _ (by simp), D.blkAt.2, ?_⟩
  have D1 := (D.store 2 [slV (q1, c1) (putR r.F p n).length] (by simp)).pk [0, 1, 3] [2] rfl
  have hr' : Rt.Ok { r with F := putR r.F p n } := ⟨hr.id, hr.ll, by have := putR_len r.F p n; simp only; omega, fun x hx => by
    rcases List.mem_cons.1 hx with rfl | hx
    · exact ⟨hn0, by simp only; omega⟩
    · exact hr.f x (List.mem_filter.1 hx).1⟩
  replace D1 : Ctx F m w (w15.setCells b (0 + 2) [slV (q1, c1) (putR r.F p n).length]) L16 m2 (rtAs b { r with F := putR r.F p n } s (q1, c1)) := D1
  generalize hr2 : ({ r with F := putR r.F p n } : Rt) = r' at D1 hr'
  have eL : r'.L = r.L := by rw [← hr2]
  have eF : r'.F = putR r.F p n := by rw [← hr2]
  refine ⟨fun q1 k c1 i w' L' => ∃ (j : Nat) (m' : Mem), i = j ∧ j ≤ r'.L.length ∧ k = ((r'.L.take j).filter (fun x => !pastF r'.F p x.id x)).length ∧ Ctx F m w w' L' m' [rtA b r', rwsA (q1, c1) ((r'.L.take j).filter (fun x => !pastF r'.F p x.id x))], fun _ _ _ i _ => (r'.L.length - i).toNat,
    ⟨0, m2, rfl, by omega, rfl, ?_⟩, ?_⟩
  · exact (Ctx.slNil (rtI s (q1, c1) D1)).swap
  clear D D1
  rintro q2 k c2 i w26 L27 _ ⟨j, m3, rfl, hj, rfl, D⟩
  obtain ⟨s2, t2, D⟩ := rtO D
  replace D : Ctx F m w w26 L27 m3 [blk b (r'.cells s2 t2) 82, rwsA s2 r'.L, frsA t2 r'.F, rwsA (q2, c2) ((r'.L.take j).filter (fun x => !pastF r'.F p x.id x))] := D
  have hcell : ∀ {w' L' m'} {As : List Asn}, Ctx F m w w' L' m' (blk b (r'.cells s2 t2) 82 :: As) → w'.cell? ((⟨b, 0, none⟩ : Addr).add 1) = some (slV s2 r'.L.length) ∧ (⟨b, 0, none⟩ : Addr).block ∉ L' := fun D => ⟨by rw [Addr.add_mid]; exact D.blkCell (j := 1) rfl, D.blkAt.2⟩
  have hll' := hr'.ll
  refine ⟨_, _, _, (hcell D).1, (hcell D).2, ?_⟩
  by_cases hjl : j < r'.L.length
  rotate_left
  · rw [if_neg (by simpa using hjl)]
    have hjj : j = r'.L.length := by omega
    rw [hjj, List.take_length] at D
    rw [hjj, List.take_length]
    refine ⟨rfl, D.there _ _ (by simp), D.blkAt.2, ?_⟩
    have D1 := (D.store 1 [slV (q2, c2) (r'.L.filter (fun x => !pastF r'.F p x.id x)).length] (by simp)).pk [0, 3, 2] [1] rfl
    refine Ctr.ret (m' := m3) (L := L27) () rfl trivial ?_
    have eR : ({ r with F := putR r.F p n, L := r.L.filter (fun x => !pastF (putR r.F p n) p x.id x) } : Rt) = { r' with L := r'.L.filter (fun x => !pastF r'.F p x.id x) } := by rw [← hr2]
    rw [eR]
    exact rtI (q2, c2) t2 D1
  rw [if_pos (by simpa using hjl)]
  refine ⟨_, _, _, (hcell D).1, (hcell D).2, by omega, by simpa using hjl, ?_⟩
  obtain ⟨pa, hpa, hc, hcb⟩ := sl_elem rw_len (by decide) (D.pm [1, 0, 2, 3] rfl) hjl
  rw [hpa, onSome_some]
  refine ⟨_, _, _, _, _, _, _, _, _, _, _, _, _, by rw [Int.toNat_natCast]; exact hc, by rw [Int.toNat_natCast]; exact hcb, ?_⟩
  have e : IntKind.wrap .i64 ((j : Int) + 1) = ((j + 1 : Nat) : Int) := by rw [w_i64 (by omega) (by omega)]; omega
  have hm : Nat.le (((r'.L.length : Int) - ((j + 1 : Nat) : Int)).toNat + 1) ((r'.L.length : Int) - (j : Int)).toNat := Nat.le_of_eq (by omega)
  have hft := filter_take (fun x : Rw => !pastF r'.F p x.id x) r'.L j hjl
  have hlt := filter_lt (fun x : Rw => !pastF r'.F p x.id x) r'.L j
  generalize hx : r'.L[j] = x at hft ⊢
  generalize (r'.L.take j).filter (fun x => !pastF r'.F p x.id x) = out at D hft hlt ⊢
  by_cases hpe : (((x.id.n == p.1) && (x.id.l == p.2)) && x.ended) = true
  · rw [if_pos (by
      simp only [Bool.and_eq_true] at hpe
      rw [hpe.1.1, hpe.1.2, hpe.2]; rfl)]
    intro w54 L55 h54 g54
    have D1 : Ctx F m w w54 L55 m3 ([rtA b r'] ++ [rwsA (q2, c2) out]) := rtI s2 t2 (D.hidL h54 g54)
    refine (c_rold b r' x.id hr').call (As := [rwsA (q2, c2) out]) D1 trivial fun _ m4 w57 hk4 hm4 _ D => ⟨_, rfl, hk4, ?_⟩
    have hpf : pastF r'.F p x.id x = oldF r'.F x.id := by rw [pastF, hpe, Bool.true_and]
    cases ho : oldF r'.F x.id with
    | true =>
      rw [if_neg (by simp)]
      rw [hpf, ho, if_neg (by simp), List.append_nil] at hft
      rw [e]
      exact ⟨rfl, ⟨j + 1, m4, rfl, hjl, by rw [hft], by rw [hft]; exact D⟩, hm⟩
    | false =>
      rw [if_pos (by simp)]
      rw [hpf, ho, if_pos (by simp)] at hft
      have D2 := D.alloc x.row 94
      have hcl : Cells _ ⟨w57.heap.size, 0, none⟩ x.row := D2.blkCells (o := 0) fun j v e => by simpa using e
      obtain ⟨q3, c3, w62, hr3, hk3, D3⟩ := app_oneR x (by omega) (D2.pm [2, 0, 1] rfl) hcl
      rw [← hft] at D3 hr3
      refine ⟨q3, _, c3, w62, hr3, hk3, rfl, ?_, ?_⟩
      · rw [e]; exact ⟨j + 1, m4, rfl, hjl, rfl, D3.pk [2, 0] [1] rfl⟩
      · rw [e]; exact hm
  · have hpb : (((x.id.n == p.1) && (x.id.l == p.2)) && x.ended) = false := by simpa using hpe
    have hpf : pastF r'.F p x.id x = false := by rw [pastF, hpb, Bool.false_and]
    rw [if_neg (by
      rw [← Bool.not_and, hpb]; simp)]
    intro w48 L49 h48 g48
    rw [hpf, if_pos (by simp)] at hft
    have D2 := (D.hidL h48 g48).alloc x.row 94
    have hcl : Cells _ ⟨w48.heap.size, 0, none⟩ x.row := D2.blkCells (o := 0) fun j v e => by simpa using e
    obtain ⟨q3, c3, w62, hr3, hk3, D3⟩ := app_oneR x (by omega) (D2.pm [4, 1, 2, 3, 0] rfl) hcl
    rw [← hft] at D3 hr3
    refine ⟨q3, _, c3, w62, hr3, hk3, rfl, ?_, ?_⟩
    · rw [e]
      have D4 : Ctx F m w w62 L49 m3 (rtAs b r' s2 t2 ++ [rwsA (q3, c3) ((r'.L.take (j + 1)).filter (fun x => !pastF r'.F p x.id x))]) := D3.pk [1, 2, 3, 0] [4] rfl
      exact ⟨j + 1, m3, rfl, hjl, rfl, rtI s2 t2 D4⟩
    · rw [e]; exact hm
end Go.Proofs
