import Derived.Test.YtpijekgiblcfhaaU14aac
import Derived.Test.YtpijekgiblcfhaaU14adf
import Derived.Test.YtpijekgiblcfhaaW14s
import Derived.Test.YtpijekgiblcfhaaV14m2
import Derived.Test.YtpijekgiblcfhaaU14n
set_option linter.unusedVariables false
set_option linter.unusedSimpArgs false
set_option maxRecDepth 10000
namespace Go.Proofs
open Go X RowKit Go.Sort
/-! ### identifiers with their bounds, in their order -/
abbrev J : Type := { x : I // x.In }
theorem zero_in : I.zero.In := by constructor <;> decide
instance : Inhabited J := ⟨⟨I.zero, zero_in⟩⟩
def cmpJ (x y : J) : Int := x.1.cmp y.1
theorem cmpJ_num (x y : J) : cmpJ x y = cmp2 x.1.num y.1.num := cmp_num x.1 y.1 x.2 y.2
theorem lt_num (x y : J) : ltOf cmpJ x y = decide (x.1.num < y.1.num) := by
  simp only [ltOf, cmpJ_num, cmp2]
  congr 1
  by_cases h : x.1.num < y.1.num
  · simp [h]
  · simp only [h, if_false, iff_false, eq_iff_iff]; split <;> omega
theorem swoJ : SWO (ltOf cmpJ) where
  irrefl x := by rw [lt_num]; simp
  trans x y z h1 h2 := by rw [lt_num] at *; simp only [decide_eq_true_eq] at *; omega
  ntrans x y z h1 h2 := by rw [lt_num] at *; simp only [decide_eq_false_iff_not] at *; omega
theorem totJ (x y : J) (h1 : ltOf cmpJ x y = false) (h2 : ltOf cmpJ y x = false) : x = y := by
  rw [lt_num] at h1 h2
  simp only [decide_eq_false_iff_not] at h1 h2
  exact Subtype.ext (num_inj x.2 y.2 (by omega))
/-! ### the rows of a table, sorted -/
def rowOf (R : List (I × Rw)) (j : J) : Rw := match fnd j.1 R with
  | some r => if r.id = j.1 then r else Rw.fresh j.1
  | none => Rw.fresh j.1
theorem rowOf_id (R : List (I × Rw)) (j : J) : (rowOf R j).id = j.1 := by
  unfold rowOf
  split
  · split
    · assumption
    · rfl
  · rfl
abbrev rE (R : List (I × Rw)) (j : J) : List Value := rC (rowOf R j)
theorem enters45 : ∀ args w, (callFunc 45 args).run Try.prog w = .ok (.enter 45 args) w := enters Try.func45 (by kernel_rfl) rfl
theorem cmp45 (R : List (I × Rw)) (w : World) (x y : J) :
    Calls Try.prog 45 (#[.agg (rE R x).toArray, .agg (rE R y).toArray] ++ #[]) w fun e w' => e = .returned (.int .i64 (cmpJ x y)) ∧ Bel w.heap.size w w' := by
  refine x_amo_Table_All_1 _ _ _ _ _ _ _ _ _ _ _ _ _ _ _ _ _ _ _ _ _ _ _ _ _ _ w _ fun w1 L2 h1 g1 => ?_
  have A := at_hid (at_same w) (Nat.le_refl _) h1 g1
  have hx := rowOf_id R x
  have hy := rowOf_id R y
  have := c_Compare (rowOf R x).id (rowOf R y).id (by rw [hx]; exact x.2) (by rw [hy]; exact y.2)
  refine this.call fun w4 h4 => ⟨_, rfl, at_kept A h4, by rw [hx, hy]; rfl, (at_call A (Nat.le_refl _) h4).bel⟩
theorem c_Sort (R : List (I × Rw)) (l : List J) (v : Value) : Ctr Try.prog 44 #[v, .func (.func 45) #[] #[]] (fun _ => l.length < 4611686018427387904) [slA v l.length (l.flatMap (rE R)) 60 13] (fun _ : Unit => .tuple #[]) (fun _ _ => True)
    (fun _ => [slA v l.length ((sortBy cmpJ l).flatMap (rE R)) 60 13]) :=
  sortFunc_ctr (k := 13) (enc := rE R) (cf := cmpJ) (g := 45) (cb := #[]) (Cs := []) Try.sortR Try.isAgg60 Try.sizeOf60 (fun x => rC_len _) (fun x => List.all_eq_true.1 (show (rE R x).all oneC = true from rfl)) swoJ totJ enters45 (fun w1 F _ _ x y => cmp45 R w1 x y) l v 60
/-- a table whose rows bear their own keys, these in bounds -/
def TabI (R : List (I × Rw)) : Prop := ∀ p ∈ R, p.1.In ∧ p.2.id = p.1
theorem rowOf_mem {R : List (I × Rw)} (hn : (R.map (·.1)).Nodup) (hT : TabI R) {p : I × Rw} (hp : p ∈ R) : rowOf R ⟨p.1, (hT p hp).1⟩ = p.2 := by
  unfold rowOf
  rw [mem_fnd' hn (show (p.1, p.2) ∈ R from hp)]
  simp [(hT p hp).2]
/-- what All hands back: the table's rows, each once, in the order of their identifiers -/
structure AllOf (R : List (I × Rw)) (rs : List Rw) : Prop where
  perm : rs.Perm (R.map Prod.snd)
  sorted : rs.Pairwise fun a b => a.id.num < b.id.num
theorem c_All (b : Nat) (t : Tb) (hT : TabI t.R) (hl : t.R.length ≤ 1000000) :
    Ctr Try.prog 18 #[.pointer (some ⟨b, 0, none⟩)] noMem [tbA b t] (fun i : (Option Addr × Nat) × List Rw => .slice i.1.1 i.2.length i.1.2) (fun i _ => AllOf t.R i.2)
      (fun i => [slA (.slice i.1.1 i.2.length i.1.2) i.2.length (i.2.flatMap rC) 60 13, tbA b t]) := by
  refine Ctr.mk fun w F m C _ => x_All _ w _ ?_
  refine (c_none b t).call C trivial fun _ m1 w2 hk hm _ C => ⟨_, rfl, hk.size, ?_⟩
  rw [if_neg (by decide)]
  obtain ⟨mr, mf, C⟩ := tbO C
  refine ⟨some mr, by simpa [Addr.add_mid] using C.blkCell (j := 1) rfl, ?_⟩
  obtain ⟨es, clock, hes, hmi⟩ := (C.pm [1, 0, 2] rfl).mapO
  have hn : (t.R.map (·.1)).Nodup := hmi.once
  refine (c_Values mr).call (As := tbAs b t mr mf) (C.pm [0, 1, 2] rfl) trivial fun Bm m3 w6 hk hm3 _ C => ⟨_, rfl, hk.size, ?_⟩
  refine (c_Collect Bm mr t.R (by omega)).call (As := [tbB b t.win mr mf, flA mf t.Fl]) (C.pm [0, 2, 1, 3] rfl) trivial fun i m4 w9 hk hm4 hp C => ?_
  obtain ⟨v, ps⟩ := i
  replace hp : ps.Perm t.R := hp
  have hT' : TabI ps := fun p h => hT p (hp.mem_iff.1 h)
  replace C : Ctx F m w w9 [] m4 [slA v ps.length ((ps.map Prod.snd).flatMap rC) 60 13, rwA mr t.R, tbB b t.win mr mf, flA mf t.Fl] := C
  obtain ⟨q, cap, rfl, -⟩ := C.slO
  refine ⟨q, ps.length, cap, rfl, hk.size, ?_⟩
  let ks : List J := ps.pmap (fun p h => ⟨p.1, h⟩) fun p h => (hT' p h).1
  have hkl : ks.length = ps.length := List.length_pmap ..
  have hrow : ks.map (rowOf t.R) = ps.map Prod.snd := by
    simp only [ks, List.map_pmap]
    rw [← List.pmap_eq_map (p := fun p => p ∈ t.R) (H := fun p h => hp.mem_iff.1 h)]
    exact List.pmap_congr_left _ fun p h h1 h2 => rowOf_mem hn hT h2
  have hfl : (ps.map Prod.snd).flatMap rC = ks.flatMap (rE t.R) := by rw [← hrow, List.flatMap_map]
  rw [hfl, ← hkl] at C
  rw [← hkl]
  refine (c_Sort t.R ks _).call (As := [rwA mr t.R, tbB b t.win mr mf, flA mf t.Fl]) C (by rw [hkl, hp.length_eq]; omega) fun _ m5 w14 hk hm5 _ C => ⟨rfl, hk.size, ?_⟩
  have hrl : ((sortBy cmpJ ks).map (rowOf t.R)).length = ks.length := by rw [List.length_map, sortBy_len]
  rw [← hrl]
  refine Ctr.ret (m' := m5) (L := []) ((q, cap), (sortBy cmpJ ks).map (rowOf t.R)) rfl ⟨?_, ?_⟩ ?_
  · refine ((sortBy_perm cmpJ ks).map _).trans ?_
    rw [hrow]
    exact hp.map _
  · have hkn : ks.Nodup := by
      have : (ks.map (·.1)).Nodup := by
        have e : ks.map (·.1) = ps.map (·.1) := by simp only [ks, List.map_pmap, List.pmap_eq_map]
        rw [e]
        exact (hp.map _).nodup_iff.2 hn
      exact List.Pairwise.of_map (·.1) (fun a b h e => h (by rw [e])) this
    have hs := (sortBy_sorted cmpJ swoJ ks).and ((sortBy_perm cmpJ ks).nodup_iff.2 hkn)
    rw [List.pairwise_map]
    refine hs.imp fun {a b} h => ?_
    rw [rowOf_id, rowOf_id]
    have h1 := h.1
    rw [cmpJ_num] at h1
    rcases Int.lt_trichotomy a.1.num b.1.num with h2 | h2 | h2
    · exact h2
    · exact absurd (Subtype.ext (num_inj a.2 b.2 h2)) h.2
    · rw [cmp2_lt h2] at h1; omega
  · have e1 : (sortBy cmpJ ks).flatMap (rE t.R) = ((sortBy cmpJ ks).map (rowOf t.R)).flatMap rC := by rw [List.flatMap_map]
    rw [e1, ← hrl] at C
    exact (tbI (t := t) mr mf (C.pm [2, 1, 3, 0] rfl)).swap
end Go.Proofs
namespace Go.Proofs
open Go X RowKit
/-! ### what holds of every table -/
def rowOK (t : Tb) (p : I × Rw) : Prop := p.1.In ∧ p.2.id = p.1 ∧ p.1.right = true ∧ (p.1.d = 0 → p.1.s ≤ floorF t.Fl (p.1.n, p.1.l) + t.win) ∧ (p.2.ended = true → oldF t.Fl p.1 = false)
structure TbInv (t : Tb) : Prop where
  nd : (t.R.map (·.1)).Nodup
  fl : ∀ p, 0 ≤ floorF t.Fl p
  rows : ∀ p ∈ t.R, rowOK t p
theorem floor_put (Fl : List ((Int × Int) × Int)) (p q : Int × Int) (n : Int) : floorF (X.mput p n Fl) q = if q = p then n else floorF Fl q := by
  unfold floorF; rw [fnd_mput]; split <;> rfl
theorem tb0_inv (a : Int) : TbInv (tb0 a) := ⟨by simp, fun p => by simp [floorF, fnd], fun p h => by cases h⟩
theorem mem_mput {α β : Type} [DecidableEq α] {x : α} {v : β} {l : List (α × β)} (hn : (l.map (·.1)).Nodup) {p : α × β} (h : p ∈ X.mput x v l) : p = (x, v) ∨ p ∈ l := by
  rcases List.mem_cons.1 (mput_perm.mem_iff.1 h) with h | h
  · exact .inl h
  · exact .inr (mdel_sub.mem h)
theorem begin_inv {t : Tb} (h : TbInv t) {d : I} (hd : d.In) : TbInv (beginF t d).2 ∧ (beginF t d).2.R.length ≤ t.R.length + 1 ∧ (beginF t d).2.win = t.win := by
  unfold beginF
  split
  · rename_i hr
    split
    · exact ⟨h, by simp, rfl⟩
    · split
      · exact ⟨h, by simp, rfl⟩
      · split
        · rename_i h3 h4 h0
          refine ⟨⟨mput_nodup h.nd, h.fl, fun p hp => ?_⟩, ?_, rfl⟩
          · rcases mem_mput h.nd hp with rfl | hp
            · refine ⟨hd, rfl, hr, fun hz => ?_, fun he => by cases he⟩
              replace hz : d.d = 0 := hz
              have hf := h.fl (d.n, d.l)
              have hs := hd.s
              unfold stateF at h0
              split at h0
              · split at h0 <;> cases h0
              · split at h0
                · cases h0
                · rename_i ho
                  simp only [oldF, hz, Bool.and_eq_true, decide_eq_true_eq, beq_self_eq_true, true_and, Int.not_le] at ho
                  split at h0
                  · cases h0
                  · rename_i hw
                    simp only [hz, beq_self_eq_true, Bool.true_and, decide_eq_true_eq, Int.not_lt] at hw
                    rw [w_u32 (by omega) (by omega)] at hw
                    show d.s ≤ floorF t.Fl (d.n, d.l) + t.win
                    omega
            · exact h.rows p hp
          · have := (mput_perm (x := d) (v := Rw.fresh d) (l := t.R)).length_eq
            have h2 := (mdel_sub (x := d) (l := t.R)).length_le
            simp only [List.length_cons] at this
            show (X.mput d (Rw.fresh d) t.R).length ≤ _
            omega
        · exact ⟨h, by simp, rfl⟩
  · exact ⟨h, by simp, rfl⟩
theorem end_inv {t : Tb} (h : TbInv t) (d : I) (c : Int) (s : ByteArray) : TbInv (endF t d c s).2 ∧ (endF t d c s).2.R.length ≤ t.R.length + 1 ∧ (endF t d c s).2.win = t.win := by
  unfold endF
  split
  · rename_i h1
    split
    · exact ⟨⟨mdel_nodup h.nd, h.fl, fun p hp => h.rows p (mdel_sub.mem hp)⟩, by have := (mdel_sub (x := d) (l := t.R)).length_le; show (X.mdel d t.R).length ≤ _; omega, rfl⟩
    · rename_i ho
      refine ⟨⟨mput_nodup h.nd, h.fl, fun p hp => ?_⟩, ?_, rfl⟩
      · rcases mem_mput h.nd hp with rfl | hp
        · unfold stateF at h1
          split at h1
          · rename_i r hf
            obtain ⟨q1, q2, q3, q4, q5⟩ := h.rows _ (fnd_mem hf)
            exact ⟨q1, rfl, q3, q4, fun _ => by simpa using ho⟩
          · split at h1
            · cases h1
            · split at h1 <;> cases h1
        · exact h.rows p hp
      · have := (mput_perm (x := d) (v := (⟨d, true, c, s⟩ : Rw)) (l := t.R)).length_eq
        have h2 := (mdel_sub (x := d) (l := t.R)).length_le
        simp only [List.length_cons] at this
        show (X.mput d (⟨d, true, c, s⟩ : Rw) t.R).length ≤ _
        omega
  · exact ⟨h, by simp, rfl⟩
theorem raise_inv {t : Tb} (h : TbInv t) (p : Int × Int) (n : Int) : TbInv (raiseF t p n) ∧ (raiseF t p n).R.length ≤ t.R.length + 1 ∧ (raiseF t p n).win = t.win := by
  unfold raiseF
  split
  · rename_i hc
    simp only [Bool.and_eq_true, decide_eq_true_eq] at hc
    obtain ⟨⟨hr, hn1⟩, hn⟩ := hc
    have hf := h.fl p
    refine ⟨⟨h.nd.sublist (List.filter_sublist.map _), fun q => ?_, fun x hx => ?_⟩, by have := List.length_filter_le (fun x : I × Rw => !pastF (X.mput p n t.Fl) p x.1 x.2) t.R; show (t.R.filter _).length ≤ _; omega, rfl⟩
    · show 0 ≤ floorF (X.mput p n t.Fl) q
      rw [floor_put]
      split
      · omega
      · exact h.fl q
    · obtain ⟨hx1, hx2⟩ := List.mem_filter.1 hx
      obtain ⟨q1, q2, q3, q4, q5⟩ := h.rows x hx1
      refine ⟨q1, q2, q3, fun hz => ?_, fun he => ?_⟩
      · show x.1.s ≤ floorF (X.mput p n t.Fl) (x.1.n, x.1.l) + t.win
        have := q4 hz
        rw [floor_put]
        split
        · rename_i hq; rw [hq] at this; omega
        · exact this
      · show oldF (X.mput p n t.Fl) x.1 = false
        by_cases hq : (x.1.n, x.1.l) = p
        · subst hq
          simpa [pastF, he] using hx2
        · have := q5 he
          unfold oldF at this ⊢
          rw [floor_put, if_neg hq]
          exact this
  · exact ⟨h, by simp, rfl⟩
theorem do_inv {t : Tb} (h : TbInv t) (a : Ac) (hd : a.d.In) : TbInv (doF t a).2 ∧ (doF t a).2.R.length ≤ t.R.length + 1 ∧ (doF t a).2.win = t.win := by
  unfold doF
  split
  · exact begin_inv h hd
  · split
    · exact end_inv h _ _ _
    · split
      · exact raise_inv h _ _
      · exact ⟨h, by simp, rfl⟩
/-! ### few -/
def countP (t : Tb) (n l : Int) (r : Rw) : Bool := ((r.id.n == n) && (r.id.l == l)) && (r.id.d == 0) && (r.ended || decide (r.id.s > floorF t.Fl (r.id.n, r.id.l)))
theorem right_zero {x : I} (h : x.right = true) (hd : x.d = 0) : x.g0 = 0 ∧ x.i0 = 0 ∧ x.g1 = 0 ∧ x.i1 = 0 ∧ x.g2 = 0 ∧ x.i2 = 0 := by
  simp only [I.right, stepIn, hd, Bool.and_eq_true, Bool.or_eq_true, decide_eq_true_eq] at h
  omega
theorem few {t : Tb} (h : TbInv t) (hw : 0 ≤ t.win) (n l : Int) {rs : List Rw} (hr : AllOf t.R rs) : ((rs.filter (countP t n l)).length : Int) ≤ t.win := by
  have key : ∀ r ∈ rs.filter (countP t n l), r.id.right = true ∧ r.id.d = 0 ∧ r.id.n = n ∧ r.id.l = l ∧ floorF t.Fl (n, l) < r.id.s ∧ r.id.s ≤ floorF t.Fl (n, l) + t.win := by
    intro r hrm
    obtain ⟨h1, h2⟩ := List.mem_filter.1 hrm
    obtain ⟨p, hp, rfl⟩ := List.mem_map.1 (hr.perm.mem_iff.1 h1)
    obtain ⟨q1, q2, q3, q4, q5⟩ := h.rows p hp
    simp only [countP, q2, Bool.and_eq_true, Bool.or_eq_true, beq_iff_eq, decide_eq_true_eq] at h2
    obtain ⟨⟨⟨e1, e2⟩, e3⟩, e4⟩ := h2
    rw [q2]
    have h4 := q4 e3
    rw [e1, e2] at h4
    refine ⟨q3, e3, e1, e2, ?_, h4⟩
    rcases e4 with e4 | e4
    · have := q5 e4
      simp only [oldF, e3, e1, e2, beq_self_eq_true, Bool.true_and, decide_eq_false_iff_not, Int.not_le] at this
      exact this
    · rw [e1, e2] at e4; exact e4
  have hnd : ((rs.filter (countP t n l)).map (fun r => r.id.s)).Nodup := by
    rw [List.Nodup, List.pairwise_map]
    have hp : (rs.filter (countP t n l)).Pairwise fun a b => a.id.num < b.id.num := hr.sorted.sublist List.filter_sublist
    refine (List.Pairwise.and_mem.1 hp).imp fun {a b} hab => ?_
    obtain ⟨ha, hb, hlt⟩ := hab
    intro es
    obtain ⟨a1, a2, a3, a4, -⟩ := key a ha
    obtain ⟨b1, b2, b3, b4, -⟩ := key b hb
    have za := right_zero a1 a2
    have zb := right_zero b1 b2
    have : a.id = b.id := I.ext' ⟨by omega, by omega, es, by omega, by omega, by omega, by omega, by omega, by omega, by omega⟩
    rw [this] at hlt; omega
  have := nodup_le _ ((List.range t.win.toNat).map fun i : Nat => floorF t.Fl (n, l) + 1 + (i : Int)) hnd (fun s hs => by
    obtain ⟨r, hr1, rfl⟩ := List.mem_map.1 hs
    obtain ⟨-, -, -, -, k1, k2⟩ := key r hr1
    refine List.mem_map.2 ⟨(r.id.s - floorF t.Fl (n, l) - 1).toNat, List.mem_range.2 (by omega), by omega⟩)
  simp only [List.length_map, List.length_range] at this
  omega
end Go.Proofs
namespace Go.Proofs
open Go X RowKit
theorem c_Floor (b : Nat) (t : Tb) (p : Int × Int) : Ctr Try.prog 19 #[.pointer (some ⟨b, 0, none⟩), pkV p] noMem [tbA b t] (fun _ : Unit => .int .u32 (floorF t.Fl p)) (fun _ _ => True) (fun _ => [tbA b t]) := by
  refine Ctr.mk fun w F m C _ => x_Floor _ _ _ w _ fun w1 L2 h1 g1 => ?_
  refine (c_none b t).call (C.hidL h1 g1) trivial fun _ m1 w4 hk hm _ C => ⟨_, rfl, hk, ?_⟩
  rw [if_neg (by decide)]
  obtain ⟨mr, mf, C⟩ := tbO C
  have hf : ∀ {w' L'} {As' : List Asn}, Ctx F m w w' L' m1 (tbB b t.win mr mf :: As') → FactsW [(⟨b, 2, none⟩, [.map (some mf)])] w' L' := fun C => C.blkFact1 2 _ rfl (facts_nil _ _)
  refine ⟨_, hf C, some mf, by simp [Addr.add_mid], fun w8 L9 h8 g8 => ?_⟩
  replace C := C.hidL h8 g8
  refine ⟨_, w8, look_fl (C.pm [2, 0, 1] rfl) p, kept_refl _ _, hf C, ?_⟩
  exact Ctr.ret () rfl trivial (tbI mr mf C)
theorem ac_d2 {a : Ac} {j : Nat} {v : Value} (h : a.d.row[j]? = some v) : a.row[1 + j]? = some v := by
  match j, h with
  | 0, h | 1, h | 2, h | 3, h | 4, h | 5, h | 6, h | 7, h | 8, h | 9, h => exact h
  | j + 10, h => simp [I.row] at h
theorem winF_eq (a : Int) : winF a = (if (16 : Int) < (if (1 : Int) > a then 1 else a) then 16 else (if (1 : Int) > a then 1 else a)) := by
  unfold winF
  exact w_u32 (by split <;> (try split) <;> omega) (by split <;> (try split) <;> omega)
theorem l_AmoFew (w : World) (a : Int) (q : Option Addr) (c : Nat) (l : List Ac) (hl : ∀ x ∈ l, x.d.In) (hs : MSrc (memOf w) 14 (.slice q l.length c) l.length (l.flatMap Ac.row)) :
    Calls Try.prog 5 #[.int .i64 a, .slice q l.length c] w (LawR w) := by
  refine x_gemotlaw14_AmoFew _ _ _ _ w _ ?_
  have C := lawStart w
  refine (c_light l q c).call C hs fun v m1 w2 hk hm1 _ C => ⟨_, rfl, hk.size, ?_⟩
  obtain ⟨v, hv⟩ := v
  cases v with
  | false =>
    rw [if_neg (by simp)]
    refine c_knows.call (As := []) C trivial fun _ m2 w5 hk hm _ C => ⟨true, rfl, hk.size, rfl, C.at_⟩
  | true =>
  rw [if_pos (by simp)]
  have h100 := hv rfl
  refine c_knows.call (As := []) C trivial fun _ m2 w8 hk hm2 _ C => ⟨true, rfl, hk.size, ?_⟩
  rw [if_neg (by simp)]
  refine (c_New a).call (As := []) C trivial fun b m3 w11 hk hm3 _ C => ⟨_, rfl, hk.size, ?_⟩
  replace hs := ((hs.mono hm1).mono hm2).mono hm3
  clear hm1 hm2 hm3 hk hv
  refine ⟨fun n w' L' => ∃ (i : Nat) (t : Tb) (m : Mem), n = i ∧ i ≤ l.length ∧ TbInv t ∧ t.R.length ≤ i ∧ t.win = winF a ∧ m3.le m ∧ Ctx [] (memOf w) w w' [] m [tbA b t], fun n _ => (l.length - n).toNat,
    ⟨0, tb0 a, m3, rfl, by omega, tb0_inv a, Nat.le_refl _, rfl, Mem.le_refl _, C⟩, ?_⟩
  clear C
  rintro n w16 L17 _ ⟨i, t, m, rfl, hi, hT, hRl, hwin, hmm, D⟩
  by_cases hlt : i < l.length
  rotate_left
  · rw [if_neg (by simpa using hlt)]
    exact ⟨rfl, D.at_⟩
  rw [if_pos (by simpa using hlt)]
  have e : IntKind.wrap .i64 ((i : Int) + 1) = ((i + 1 : Nat) : Int) := by rw [w_i64 (by omega) (by omega)]; omega
  have hmeas : Nat.le (((l.length : Int) - ((i + 1 : Nat) : Int)).toNat + 1) ((l.length : Int) - (i : Int)).toNat := Nat.le_of_eq (by omega)
  refine ⟨by omega, by simpa using hlt, ?_⟩
  obtain ⟨pa, rfl, hcell⟩ := (hs.mono hmm).elem ac_len hlt
  rw [onSome_some]
  have hd := hl _ (List.getElem_mem hlt)
  refine ⟨l[i].kd, l[i].d.n, l[i].d.l, l[i].d.s, l[i].d.d, l[i].d.g0, l[i].d.i0, l[i].d.g1, l[i].d.i1, l[i].d.g2, l[i].d.i2, l[i].c, l[i].v, l[i].nn, D.cells hcell, ?_⟩
  obtain ⟨hT2, hR2, hw2⟩ := do_inv hT l[i] hd
  refine (c_do b t l[i].kd l[i].d hd l[i].c l[i].v l[i].nn).call (As := []) D trivial fun _ m4 w34 hk hm4 _ D => ⟨_, rfl, hk.size, ?_⟩
  have hmm4 := hmm.le_trans hm4
  change TbInv (doF t ⟨l[i].kd, l[i].d, l[i].c, l[i].v, l[i].nn⟩).2 at hT2
  change (doF t ⟨l[i].kd, l[i].d, l[i].c, l[i].v, l[i].nn⟩).2.R.length ≤ _ at hR2
  change (doF t ⟨l[i].kd, l[i].d, l[i].c, l[i].v, l[i].nn⟩).2.win = _ at hw2
  generalize (doF t ⟨l[i].kd, l[i].d, l[i].c, l[i].v, l[i].nn⟩).2 = t' at D hT2 hR2 hw2
  rw [hwin] at hw2
  clear hT hwin
  have hcell4 := hcell.mono hm4
  have hidc : MCells m4 ((pa.add (i * 14)).add 1) l[i].d.row := fun j v hv => by
    have h2 := hcell4 (1 + j) v (ac_d2 hv)
    rw [Addr.add_add]; exact h2
  refine ⟨by omega, by simpa using hlt, ?_⟩
  rw [onSome_some]
  refine ⟨_, _, _, _, _, _, _, _, _, _, D.cells hidc, ?_⟩
  refine D.gives (c_ID l[i].d) fun w48 k48 D => ⟨_, _, _, _, _, _, _, _, _, _, rfl, k48.size, fun w59 L60 h59 g59 => ?_⟩
  replace D := D.hidL h59 g59
  refine (c_All b t' (fun p hp => ⟨(hT2.rows p hp).1, (hT2.rows p hp).2.1⟩) (by omega)).call (As := []) D trivial fun y m5 w62 hk hm5 hA D => ?_
  obtain ⟨⟨q2, c2⟩, rs⟩ := y
  replace hA : AllOf t'.R rs := hA
  refine ⟨q2, rs.length, c2, rfl, hk, ?_⟩
  have hrs : rs.length ≤ 1000 := by have := hA.perm.length_eq; simp at this; omega
  replace D : Ctx [] (memOf w) w w62 L60 m5 [slA (.slice q2 rs.length c2) rs.length (rs.flatMap rC) 60 13, tbA b t'] := D
  have hmm5 := hmm4.le_trans hm5
  refine ⟨fun k n w' L' => ∃ (j : Nat) (m6 : Mem), n = j ∧ j ≤ rs.length ∧ m5.le m6 ∧ k = (((rs.take j).filter (countP t' l[i].d.n l[i].d.l)).length : Nat) ∧ Ctx [] (memOf w) w w' L' m6 [slA (.slice q2 rs.length c2) rs.length (rs.flatMap rC) 60 13, tbA b t'], fun _ n _ => (rs.length - n).toNat, ⟨0, m5, rfl, by omega, Mem.le_refl _, by simp, D⟩, ?_⟩
  clear D hk
  rintro k n w70 L71 _ ⟨j, m6, rfl, hj, hmm6, rfl, D⟩
  by_cases hjl : j < rs.length
  · rw [if_pos (by simpa using hjl)]
    refine ⟨by omega, by simpa using hjl, ?_⟩
    have hc := D.slCells
    have hne : rs.flatMap rC ≠ [] := fun e0 => by
      have h := congrArg List.length e0
      rw [flat_len rC_len] at h
      simp at h; omega
    cases q2 with
    | none => exact absurd (hc.2 rfl) hne
    | some pb =>
    rw [onSome_some]
    have hcl := cells_elem rC_len (hc.1 pb rfl).1 j hjl
    have hid : ∀ (o : Nat) (v : Value), rs[j].id.row[o]? = some v → (rC rs[j])[0 + o]? = some v := fun o v h => by
      match o, h with
      | 0, h | 1, h | 2, h | 3, h | 4, h | 5, h | 6, h | 7, h | 8, h | 9, h => exact h
      | o + 10, h => simp [I.row] at h
    have hbool : ∀ (o : Nat) (u : Value), [Value.bool rs[j].ended][o]? = some u → (rs.flatMap rC)[(j * 13 + 10) + o]? = some u := fun o u h => by
      match o, h with
      | 0, h => exact flat_at rC_len rs j hjl 10 u h
      | o + 1, h => simp at h
    have hF : FactsW [(pb.add (j * 13 + 10), [.bool rs[j].ended])] w70 L71 := D.slFact (j * 13 + 10) (.bool rs[j].ended) [] hbool (facts_nil _ _)
    refine ⟨_, _, _, _, _, _, _, _, _, _, cells_part hcl 0 rs[j].id.row hid, fun hm => (hc.1 pb rfl).2 hne (by rw [addr_block, addr_block] at hm; exact hm), _, hF, ?_⟩
    have e2 : IntKind.wrap .i64 ((j : Int) + 1) = ((j + 1 : Nat) : Int) := by rw [w_i64 (by omega) (by omega)]; omega
    have htk : rs.take (j + 1) = rs.take j ++ [rs[j]] := by rw [List.take_add_one, List.getElem?_eq_getElem hjl]; rfl
    have hle : ((rs.take j).filter (countP t' l[i].d.n l[i].d.l)).length ≤ 1000 := by
      have h1 := List.length_filter_le (countP t' l[i].d.n l[i].d.l) (rs.take j)
      have h2 := List.length_take_le j rs
      omega
    have e3 : IntKind.wrap .i64 (((((rs.take j).filter (countP t' l[i].d.n l[i].d.l)).length : Nat) : Int) + 1) = (((((rs.take j).filter (countP t' l[i].d.n l[i].d.l)).length + 1) : Nat) : Int) := by rw [w_i64 (by omega) (by omega)]; omega
    have hinc : countP t' l[i].d.n l[i].d.l rs[j] = true → ((rs.take j).filter (countP t' l[i].d.n l[i].d.l)).length + 1 = ((rs.take (j + 1)).filter (countP t' l[i].d.n l[i].d.l)).length := fun h => by rw [htk, List.filter_append]; simp [h]
    have hsame : countP t' l[i].d.n l[i].d.l rs[j] = false → ((rs.take j).filter (countP t' l[i].d.n l[i].d.l)).length = ((rs.take (j + 1)).filter (countP t' l[i].d.n l[i].d.l)).length := fun h => by rw [htk, List.filter_append]; simp [h]
    have hm2 : Nat.le (((rs.length : Int) - ((j + 1 : Nat) : Int)).toNat + 1) ((rs.length : Int) - (j : Int)).toNat := Nat.le_of_eq (by omega)
    by_cases h1 : (((rs[j].id.n == l[i].d.n) && (rs[j].id.l == l[i].d.l)) && (rs[j].id.d == 0)) = true
    · rw [if_pos (by simpa using h1)]
      refine ⟨by omega, by simpa using hjl, ?_⟩
      rw [onSome_some]
      refine ⟨rs[j].ended, by rw [Addr.add_add]; exact List.mem_cons_self, ?_⟩
      cases he : rs[j].ended with
      | false =>
        rw [if_pos (by simp)]
        intro w90 L91 h90 g91
        replace D := (D.hidL h90 g91).swap
        refine (c_Floor b t' (rs[j].id.n, rs[j].id.l)).call (As := [slA (.slice (some pb) rs.length c2) rs.length (rs.flatMap rC) 60 13]) D trivial fun _ m7 w93 hk hm7 _ D => ⟨_, rfl, hk, ?_, ?_⟩
        · have hb2 := hbool
          rw [he] at hb2
          exact D.swap.slFact (j * 13 + 10) (.bool false) [] hb2 (facts_nil _ _)
        · rw [e2]
          by_cases hs : rs[j].id.s > floorF t'.Fl (rs[j].id.n, rs[j].id.l)
          · rw [if_pos (by simpa using hs), e3]
            exact ⟨rfl, ⟨j + 1, m7, rfl, hjl, hmm6.le_trans hm7, by rw [hinc (by simp only [countP, h1, he, hs]; rfl)], D.swap⟩, hm2⟩
          · rw [if_neg (by simpa using hs)]
            exact ⟨rfl, ⟨j + 1, m7, rfl, hjl, hmm6.le_trans hm7, by rw [hsame (by simp only [countP, h1, he, hs]; rfl)], D.swap⟩, hm2⟩
      | true =>
        rw [if_neg (by simp)]
        intro w88 L89 h88 g89
        rw [e2, e3]
        exact ⟨rfl, ⟨j + 1, m6, rfl, hjl, hmm6, by rw [hinc (by simp [countP, h1, he])], D.hidL h88 g89⟩, hm2⟩
    · rw [if_neg (by simpa using h1)]
      intro w84 L85 h84 g85
      rw [e2]
      exact ⟨rfl, ⟨j + 1, m6, rfl, hjl, hmm6, by rw [hsame (by simp only [countP]; simp only [Bool.not_eq_true] at h1; rw [h1]; rfl)], D.hidL h84 g85⟩, hm2⟩
  · have hjl2 : j = rs.length := by omega
    subst hjl2
    rw [if_neg (by simp)]
    have hfew := few hT2 (by rw [hw2, winF_eq]; split <;> (try split) <;> omega) l[i].d.n l[i].d.l hA
    rw [hw2, winF_eq] at hfew
    rw [List.take_length, if_neg (by simpa using hfew), e]
    exact ⟨⟨i + 1, t', m6, rfl, hlt, hT2, by omega, hw2, hmm5.le_trans hmm6, (D.pk [1] [0] rfl).noL⟩, hmeas⟩
end Go.Proofs
