import Derived.Test.YtamnhlkaknjcaaaU09n
import Derived.Test.YtamnhlkaknjcaaaV09d
set_option linter.unusedVariables false
set_option linter.unusedSimpArgs false
set_option maxRecDepth 10000
namespace Go.Proofs
open Go X RowKit Go.Sort
abbrev iR (t : Int) : List Value := [.int .i64 t]
theorem iR_len (t : Int) : (iR t).length = 1 := rfl
abbrev boB (b : Nat) (M : List Bool) : Asn := blk b (M.map Value.bool) 51
theorem bo_get {M : List Bool} {j : Nat} (h : j < M.length) : (M.map Value.bool)[j]? = some (.bool (M.getD j false)) := by
  simp [List.getElem?_map, List.getD_eq_getElem?_getD, h]
theorem bo_set (M : List Bool) (j : Nat) (h : j < M.length) : splice (M.map Value.bool) j [.bool true] = (M.set j true).map Value.bool := by
  apply List.ext_getElem?
  intro i
  simp only [splice, List.length_singleton]
  by_cases h1 : i < j
  · rw [List.append_assoc, List.getElem?_append_left (by simp; omega), List.getElem?_take, if_pos h1]
    simp [List.getElem?_map, List.getElem?_set, show ¬ j = i by omega]
  · by_cases h2 : i = j
    · subst h2
      rw [List.append_assoc, List.getElem?_append_right (by rw [List.length_take]; omega), List.getElem?_append_left (by simp; omega)]
      simp [List.getElem?_map, List.getElem?_set, h]
      rw [show i - min i M.length = 0 by omega]; rfl
    · rw [List.getElem?_append_right (by simp; omega), List.getElem?_drop]
      simp [List.getElem?_map, List.getElem?_set, show ¬ j = i by omega]
      congr 1; congr 1; omega
theorem repl_get (n j : Nat) : (List.replicate n false).getD j false = false := by
  rw [List.getD_eq_getElem?_getD, List.getElem?_replicate]; split <;> rfl
theorem getD_get (T : List Int) (j : Nat) (h : j < T.length) : T[j] = T.getD j 0 := by simp [List.getD_eq_getElem?_getD, h]
theorem l_WheelOnce (w : World) (qa qb : Option Addr) (ca cb : Nat) (T N : List Int) (hT : MSrc (memOf w) 1 (.slice qa T.length ca) T.length (T.flatMap iR)) (hN : MSrc (memOf w) 1 (.slice qb N.length cb) N.length (N.flatMap iR)) :
    Calls Try.prog 4 #[.slice qa T.length ca, .slice qb N.length cb] w (LawR w) := by
  refine x_gemotlaw09_WheelOnce _ _ _ _ _ _ w _ ?_
  have C := lawStart w
  by_cases h60 : T.length > 60 ∨ N.length > 60
  · rw [if_neg (by simp; omega)]
    exact c_knows.call (As := []) C trivial fun _ m2 w2 hk _ _ C => ⟨_, rfl, hk.size, rfl, Ctx.at_ C⟩
  rw [if_pos (by simp; omega)]
  have hTl : T.length ≤ 60 := by omega
  have hNl : N.length ≤ 60 := by omega
  refine c_knows.call (As := []) C trivial fun _ m1 w5 hk hm1 _ C => ⟨_, rfl, hk.size, ?_⟩
  rw [if_neg (by decide)]
  refine (c_New 100).call (As := []) C trivial fun b m2 w8 hk hm2 _ C => ⟨_, rfl, hk.size, ?_⟩
  replace hT := (hT.mono hm1).mono hm2
  replace hN := (hN.mono hm1).mono hm2
  clear hm1 hm2 hk
  have e100 : (⟨mostF 100, []⟩ : Wh) = ⟨100, fullN T 0⟩ := by simp [mostF, fullN]
  rw [e100] at C
  refine ⟨fun n w' L' => ∃ (i : Nat) (m' : Mem), n = i ∧ i ≤ T.length ∧ m2.le m' ∧ Ctx [] (memOf w) w w' [] m' [whA b ⟨100, fullN T i⟩], fun n _ => (T.length - n).toNat, ⟨0, m2, rfl, by omega, Mem.le_refl _, C⟩, ?_⟩
  clear C e100
  rintro n w13 L14 _ ⟨i, m, rfl, hi, hmm, C⟩
  by_cases hlt : i < T.length
  · rw [if_pos (by simpa using hlt)]
    obtain ⟨pa, rfl, hcell⟩ := (hT.mono hmm).elem iR_len hlt
    refine ⟨by omega, by simpa using hlt, ?_⟩
    rw [onSome_some]
    refine ⟨_, C.cells hcell 0 _ rfl, ?_⟩
    have hw : IntKind.wrap .u8 (i : Int) = (kk i).1.kd := by rw [w_u8 (by omega) (by omega), kk_kd (by omega)]
    rw [hw, getD_get T i hlt]
    refine (c_Set b ⟨100, fullN T i⟩ (kk i) (T.getD i 0)).call (As := []) C trivial fun _ m3 w67 hk hm3 _ C => ⟨_, rfl, hk.size, ?_⟩
    rw [full_set T (by omega)] at C ⊢
    refine C.gives (c_num 0) fun w70 k70 C => ⟨_, rfl, k70.size, ?_⟩
    rw [if_neg (by decide), w1 i (by omega)]
    exact ⟨⟨i + 1, m3, rfl, hlt, hmm.le_trans hm3, C⟩, by show ((T.length : Int) - ((i + 1 : Nat) : Int)).toNat + 1 ≤ ((T.length : Int) - (i : Int)).toNat; omega⟩
  rw [if_neg (by simpa using hlt)]
  have hiT : i = T.length := by omega
  subst hiT
  replace hT := hT.mono hmm
  replace hN := hN.mono hmm
  clear hmm hlt hi
  have C1 := C.alloc ((List.replicate 60 false).map Value.bool) 51
  generalize hmb : w13.heap.size = mb at C1 ⊢
  have hun : fullN T T.length = unmet T (List.replicate 60 false) := (List.filter_eq_self.2 fun p _ => by rw [repl_get]; rfl).symm
  rw [hun] at C1
  refine ⟨fun n w' L' => ∃ (i : Nat) (M : List Bool) (m' : Mem), n = i ∧ i ≤ N.length ∧ m.le m' ∧ M.length = 60 ∧ Ctx [] (memOf w) w w' [] m' [boB mb M, whA b ⟨100, unmet T M⟩], fun n _ => (N.length - n).toNat, ⟨0, _, m, rfl, by omega, Mem.le_refl _, by simp, C1⟩, ?_⟩
  clear C C1 hun hmb
  rintro n w18 L19 _ ⟨i, M, m3, rfl, hi, hmm, hM, C⟩
  by_cases hlt : i < N.length
  rotate_left
  · rw [if_neg (by simpa using hlt)]
    exact ⟨rfl, Ctx.at_ C⟩
  rw [if_pos (by simpa using hlt)]
  obtain ⟨pb, rfl, hcell⟩ := (hN.mono hmm).elem iR_len hlt
  refine ⟨by omega, by simpa using hlt, ?_⟩
  rw [onSome_some]
  refine ⟨_, C.cells hcell 0 _ rfl, ?_⟩
  have hnow : ∀ {w' L' m'} {As}, m3.le m' → Ctx [] (memOf w) w w' L' m' As → w'.cell? (pb.add (i * 1)) = some (.int .i64 N[i]) := fun h C => C.cells (hcell.mono h) 0 _ rfl
  generalize N[i] = now at hnow ⊢
  have hul := unmet_len hTl M
  have hn := unmet_nodup hTl M
  refine (c_Due b ⟨100, unmet T M⟩ (by simp only; omega) now).call (As := [boB mb M]) C.swap trivial fun v m4 w23 hk hm4 _ C => ⟨_, _, _, rfl, hk.size, ?_⟩
  simp only [unmet_step hTl hM now] at C
  have hsorted := due_sorted ⟨100, unmet T M⟩ now
  have hnd := due_nodup (s := ⟨100, unmet T M⟩) (now := now) hn
  have hmem := fun x => due_mem (s := ⟨100, unmet T M⟩) (now := now) hn x
  have hdl : (dueF ⟨100, unmet T M⟩ now).length ≤ 60 := Nat.le_trans (dueF_len _ _) hul
  have hat : ∀ x t, (x, t) ∈ unmet T M → atF (unmet T M) x = t := fun x t h => due_at (s := ⟨100, unmet T M⟩) hn h
  generalize dueF ⟨100, unmet T M⟩ now = ds at C hsorted hnd hmem hdl ⊢
  simp only at hsorted hmem
  have hj : ∀ x, x ∈ ds → ∃ j, j < T.length ∧ x = kk j ∧ T.getD j 0 ≤ now ∧ M.getD j false = false ∧ atF (unmet T M) x = T.getD j 0 := fun x hx => by
    obtain ⟨t, h1, h2⟩ := (hmem x).1 hx
    obtain ⟨j, a, b', c, d⟩ := (unmet_mem hTl).1 h1
    exact ⟨j, a, b', by rw [← c]; exact h2, d, by rw [← c]; exact hat x t h1⟩
  have C0 : Ctx [] (memOf w) w w23 [] m4 [jsA 40 v ds, whA b ⟨100, unmet T (setM M ds)⟩, boB mb M] := C
  have hmm4 := hmm.le_trans hm4
  have tcell : ∀ {w' L' m'} {As} {j : Nat}, m4.le m' → j < T.length → Ctx [] (memOf w) w w' L' m' As → ∃ pa, qa = some pa ∧ w'.cell? (pa.add (j * 1)) = some (.int .i64 (T.getD j 0)) := fun {w' L' m' As j} h hjl C => by
    obtain ⟨pa, e, hc⟩ := (hT.mono (hmm4.le_trans h)).elem iR_len hjl
    exact ⟨pa, e, by rw [← getD_get T j hjl]; exact C.cells hc 0 _ rfl⟩
  refine ⟨fun n w' L' => ∃ (k : Nat), n = k ∧ k ≤ ds.length ∧ Ctx [] (memOf w) w w' [] m4 [jsA 40 v ds, whA b ⟨100, unmet T (setM M ds)⟩, boB mb (setM M (ds.take k))], fun n _ => (ds.length - n).toNat, ⟨0, rfl, by omega, C0⟩, ?_⟩
  clear C C0
  rintro n w30 L31 _ ⟨k, rfl, hk, D⟩
  by_cases hkl : k < ds.length
  · rw [if_pos (by simpa using hkl)]
    refine ⟨by omega, by simpa using hkl, ?_⟩
    obtain ⟨pd, hpd, hcd, hcb⟩ := js_elem D hkl
    obtain ⟨j, hjT, hxj, hjn, hjM, hjat⟩ := hj _ (List.getElem_mem hkl)
    rw [hpd, onSome_some]
    have hkd : ds[k].1.kd = (j : Int) := by rw [hxj]; exact kk_kd (by omega)
    refine ⟨ds[k].1.kd, hcd 0 _ rfl, ?_⟩
    have hw : IntKind.wrap .i64 (j : Int) = j := w_i64 (by omega) (by omega)
    rw [hkd, hw, if_pos (by simp; omega)]
    have hMk : (setM M (ds.take k)).length = 60 := by rw [setM_len, hM]
    have hfalse : (setM M (ds.take k)).getD j false = false := by
      cases h : (setM M (ds.take k)).getD j false with
      | false => rfl
      | true =>
        rcases (setM_get _ M j (by omega)).1 h with h | ⟨x, hx, e⟩
        · rw [hjM] at h; cases h
        · obtain ⟨j2, h2, rfl, _⟩ := hj x (List.take_subset _ _ hx)
          have e2 : j2 = j := by rw [kk_kd (by omega)] at e; simpa using e
          subst e2
          have hnd2 : (ds.take k ++ ds.drop k).Nodup := by rw [List.take_append_drop]; exact hnd
          have := (List.nodup_append.1 hnd2).2.2 _ hx ds[k] (by have e := List.drop_eq_getElem_cons hkl; rw [e]; exact List.mem_cons_self)
          exact absurd hxj.symm this
    have D3 := D.pm [2, 0, 1] rfl
    have hbc : ∀ {w' L' m'} {M' : List Bool} {As}, M'.length = 60 → Ctx [] (memOf w) w w' L' m' (boB mb M' :: As) → w'.cell? ((⟨mb, 0, none⟩ : Addr).add (((j : Int)).toNat * 1)) = some (.bool (M'.getD j false)) := fun h C => by
      rw [Addr.add_mid]; exact C.blkCell (by rw [Int.toNat_natCast, Nat.mul_one, Nat.zero_add]; exact bo_get (by omega))
    refine ⟨by omega, by omega, _, hbc hMk D3, ?_⟩
    rw [hfalse, if_pos (by decide)]
    obtain ⟨pa, hqa, hta⟩ := tcell (Mem.le_refl _) hjT D
    refine ⟨by omega, by omega, ?_⟩
    rw [hqa, onSome_some]
    refine ⟨_, by rw [Int.toNat_natCast]; exact hta, by omega, by simpa using hlt, ?_⟩
    refine ⟨now, by rw [Int.toNat_natCast]; exact hnow hm4 D, ?_⟩
    have hng : decide (T.getD j 0 > now) = false := decide_eq_false (by omega)
    rw [if_pos (by rw [hng]; rfl)]
    -- the store, and on
    have fin : ∀ w62, X.Hid [] w30 w62 → ((((Addr.mk mb 0 none).add (((j : Int)).toNat * 1)).spot) = none) ∧ (World.there w62 (((Addr.mk mb 0 none).add (((j : Int)).toNat * 1)).block) (((Addr.mk mb 0 none).add (((j : Int)).toNat * 1)).off) 1) ∧
        (∃ (k' : Nat), IntKind.wrap .i64 ((k : Int) + 1) = k' ∧ k' ≤ ds.length ∧ Ctx [] (memOf w) w (w62.setCells (((Addr.mk mb 0 none).add (((j : Int)).toNat * 1)).block) (((Addr.mk mb 0 none).add (((j : Int)).toNat * 1)).off) [.bool true]) [] m4 [jsA 40 v ds, whA b ⟨100, unmet T (setM M ds)⟩, boB mb (setM M (ds.take k'))]) ∧
        ((ds.length : Int) - IntKind.wrap .i64 ((k : Int) + 1)).toNat + 1 ≤ ((ds.length : Int) - (k : Int)).toNat := fun w62 h62 => by
      have D4 := D3.noL.hid0 h62
      rw [Addr.add_mid, Int.toNat_natCast, Nat.mul_one, Nat.zero_add]
      refine ⟨rfl, D4.there _ _ (by simp only [List.length_map]; omega), ?_, ?_⟩
      · rw [w1 k (by omega)]
        refine ⟨k + 1, rfl, hkl, ?_⟩
        have D5 := D4.store j [.bool true] (by simp only [List.length_map, List.length_singleton]; omega)
        rw [bo_set _ _ (by omega)] at D5
        have e : setM M (ds.take (k + 1)) = (setM M (ds.take k)).set j true := by
          rw [List.take_succ_eq_append_getElem hkl, setM, List.foldl_append]
          show List.set _ ds[k].1.kd.toNat true = _
          rw [hkd]; rfl
        rw [e]
        exact D5.pm [1, 2, 0] rfl
      · rw [w1 k (by omega)]; omega
    by_cases hk0 : k = 0
    · rw [if_neg (by simp [hk0])]
      exact ⟨by omega, by omega, fin⟩
    · rw [if_pos (by simp; omega)]
      have hwk : IntKind.wrap .i64 ((k : Int) - 1) = ((k - 1 : Nat) : Int) := by rw [w_i64 (by omega) (by omega)]; omega
      have hkp : k - 1 < ds.length := by omega
      obtain ⟨pd2, hpd2, hcd2, hcb2⟩ := js_elem D hkp
      obtain ⟨j', hjT', hxj', hjn', hjM', hjat'⟩ := hj _ (List.getElem_mem hkp)
      have hkd' : ds[k - 1].1.kd = (j' : Int) := by rw [hxj']; exact kk_kd (by omega)
      rw [hwk]
      refine ⟨by omega, by omega, ?_⟩
      obtain rfl : pd = pd2 := by rw [hpd] at hpd2; injection hpd2
      rw [onSome_some]
      refine ⟨ds[k - 1].1.kd, by rw [Int.toNat_natCast]; exact hcd2 0 _ rfl, ?_⟩
      rw [hkd']
      obtain ⟨pa', hqa', hta'⟩ := tcell (Mem.le_refl _) hjT' D
      obtain rfl : pa = pa' := by rw [hqa] at hqa'; injection hqa'
      refine ⟨by omega, by omega, _, by rw [Int.toNat_natCast]; exact hta', by omega, by omega, _, by rw [Int.toNat_natCast]; exact hta, ?_⟩
      have hle : T.getD j' 0 ≤ T.getD j 0 := by
        have := (List.pairwise_iff_getElem.1 hsorted) (k - 1) k hkp hkl (by omega)
        rw [hjat', hjat] at this; exact this
      have hng2 : decide (T.getD j' 0 > T.getD j 0) = false := decide_eq_false (by omega)
      rw [if_neg (by rw [hng2]; decide)]
      exact ⟨by omega, by omega, fin⟩
  rw [if_neg (by simpa using hkl)]
  have hkd : k = ds.length := by omega
  subst hkd
  rw [List.take_length] at D
  have hML : (setM M ds).length = 60 := by rw [setM_len, hM]
  refine ⟨fun n w' L' => ∃ (t : Nat), n = t ∧ t ≤ T.length ∧ Ctx [] (memOf w) w w' [] m4 [boB mb (setM M ds), whA b ⟨100, unmet T (setM M ds)⟩], fun n _ => (T.length - n).toNat, ⟨0, rfl, by omega, D.pk [2, 1] [0] rfl⟩, ?_⟩
  clear D
  rintro n w35 L36 _ ⟨t, rfl, ht, D⟩
  by_cases htl : t < T.length
  rotate_left
  · rw [if_neg (by simpa using htl), w1 i (by omega)]
    exact ⟨⟨i + 1, _, m4, rfl, hlt, hmm4, hML, D⟩, by show ((N.length : Int) - ((i + 1 : Nat) : Int)).toNat + 1 ≤ ((N.length : Int) - (i : Int)).toNat; omega⟩
  rw [if_pos (by simpa using htl)]
  refine ⟨by omega, by omega, (setM M ds).getD t false, ?_, ?_⟩
  · rw [Addr.add_mid]; exact D.blkCell (by rw [Int.toNat_natCast, Nat.mul_one, Nat.zero_add]; exact bo_get (by omega))
  have hmeas : Nat.le (((T.length : Int) - IntKind.wrap .i64 ((t : Int) + 1)).toNat + 1) ((T.length : Int) - (t : Int)).toNat := by
    rw [w1 t (by omega)]; show ((T.length : Int) - ((t + 1 : Nat) : Int)).toNat + 1 ≤ _; omega
  cases hmt : (setM M ds).getD t false with
  | true =>
    rw [if_neg (by decide)]
    exact fun w38 h38 => ⟨⟨t + 1, w1 t (by omega), htl, D.noL.hid0 h38⟩, hmeas⟩
  | false =>
    rw [if_pos (by decide)]
    obtain ⟨pa, hqa, hta⟩ := tcell (Mem.le_refl _) htl D
    refine ⟨by omega, by omega, ?_⟩
    rw [hqa, onSome_some]
    refine ⟨_, by rw [Int.toNat_natCast]; exact hta, by omega, by simpa using hlt, now, by rw [Int.toNat_natCast]; exact hnow hm4 D, ?_⟩
    have hno : ¬ T.getD t 0 ≤ now := fun hle => by
      have h1 : M.getD t false = false := by
        cases h : M.getD t false with
        | false => rfl
        | true => have := (setM_get ds M t (by omega)).2 (.inl h); rw [hmt] at this; cases this
      have h2 : kk t ∈ ds := (hmem _).2 ⟨_, (unmet_mem hTl).2 ⟨t, htl, rfl, rfl, h1⟩, hle⟩
      have := (setM_get ds M t (by omega)).2 (.inr ⟨_, h2, by rw [kk_kd (by omega)]; simp⟩)
      rw [hmt] at this; cases this
    rw [if_neg (by simp only [Bool.true_and, decide_eq_true_eq]; exact hno)]
    exact fun w43 h43 => ⟨⟨t + 1, w1 t (by omega), htl, D.noL.hid0 h43⟩, hmeas⟩
end Go.Proofs
