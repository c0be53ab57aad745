import Derived.Test.YtfhjpjkecjlmjaaU08l
set_option linter.unusedVariables false
set_option linter.unusedSimpArgs false
set_option maxRecDepth 10000
namespace Go.Proofs
open Go X RowKit
/-- the bag and the document's -/
structure PRel (m : Mem) (k : Int) (rs ss : List Pr) : Prop where
  eq : rs.map (·.p) = ss.map (·.p)
  src : ∀ s ∈ ss, BySrc m s
  len : ∀ s ∈ ss, s.p.bs.length ≤ 5000
  max : (ss.length : Int) ≤ k
theorem PRel.mono {m m' : Mem} {k : Int} {rs ss : List Pr} (h : PRel m k rs ss) (hm : m.le m') : PRel m' k rs ss := ⟨h.eq, fun s hs => (h.src s hs).mono hm, h.len, h.max⟩
theorem PRel.length {m : Mem} {k : Int} {rs ss : List Pr} (h : PRel m k rs ss) : rs.length = ss.length := by simpa using congrArg List.length h.eq
theorem PRel.at_ {m : Mem} {k : Int} {rs ss : List Pr} (h : PRel m k rs ss) (n : Nat) (h1 : n < rs.length) (h2 : n < ss.length) : rs[n].p = ss[n].p := by
  have := congrArg (fun l => l[n]?) h.eq
  simpa [h1, h2] using this
theorem PRel.lenR {m : Mem} {k : Int} {rs ss : List Pr} (h : PRel m k rs ss) : ∀ r ∈ rs, r.p.bs.length ≤ 5000 := by
  intro r hr
  obtain ⟨n, hn, rfl⟩ := List.getElem_of_mem hr
  have h2 : n < ss.length := by rw [← h.length]; exact hn
  rw [h.at_ n hn h2]; exact h.len _ (List.getElem_mem h2)
theorem PRel.erase {m : Mem} {k : Int} {rs ss : List Pr} (h : PRel m k rs ss) (n : Nat) : PRel m k (rs.eraseIdx n) (ss.eraseIdx n) :=
  ⟨by
    have e : ∀ l : List Pr, (l.eraseIdx n).map (·.p) = (l.map (·.p)).eraseIdx n := fun l => by simp [List.eraseIdx_eq_take_drop_succ, List.map_take, List.map_drop]
    rw [e, e, h.eq], fun s hs => h.src s (List.mem_of_mem_eraseIdx hs), fun s hs => h.len s (List.mem_of_mem_eraseIdx hs), by
    have := h.max
    have : (ss.eraseIdx n).length ≤ ss.length := by rw [List.length_eraseIdx]; split <;> omega
    omega⟩
/-- all bytes of a bag are read from now on -/
theorem shareAll {F0 : List Nat} {m0 : Mem} {w0 w : World} {L : List Nat} {As : List Asn} : ∀ (rs : List Pr) {m : Mem}, Ctx F0 m0 w0 w L m (bytesAs rs ++ As) → ∃ m', m.le m' ∧ (∀ r ∈ rs, BySrc m' r) ∧ Ctx F0 m0 w0 w L m' As
  | [], m, C => ⟨m, Mem.le_refl _, by simp, C⟩
  | r :: rs, m, C => by
    obtain ⟨m1, h1, h2, C1⟩ := Ctx.slShare C
    obtain ⟨m2, h3, h4, C2⟩ := shareAll rs C1
    refine ⟨m2, h1.le_trans h3, fun x hx => ?_, C2⟩
    rcases List.mem_cons.1 hx with rfl | hx
    · exact h2.mono h3
    · exact h4 x hx
theorem c_do (b b2 : Nat) (k : Int) (hk0 : 0 ≤ k) (hk : k ≤ 2000) (rs ss : List Pr) (a : Act) (hb : a.p.bs.length ≤ 5000) (hi : -9223372036854775808 ≤ a.i ∧ a.i < 9223372036854775808) :
    Ctr Try.prog 22 #[.pointer (some ⟨b, 0, none⟩), .pointer (some ⟨b2, 0, none⟩), .agg a.row.toArray] (fun m => PRel m k rs ss ∧ MSrc m 1 (.slice a.q a.p.bs.length a.c) a.p.bs.length (byV a.p.bs)) [bagA b k rs, refA b2 k ss]
      (fun _ : List Pr × List Pr => .bool true) (fun x m => PRel m k x.1 x.2) (fun x => [bagA b k x.1, refA b2 k x.2]) := by
  refine Ctr.mk fun w F m C hp => x_gemotlaw08_do _ _ _ _ _ _ _ _ _ _ _ _ _ _ w _ ?_
  have hP := hp.1
  have hlen := hP.length
  have hmax := hP.max
  by_cases h0 : a.kd = 0
  · rw [if_pos (by simp [h0]), if_pos (by simp [h0])]
    refine ⟨[], facts_nil _ _, fun w1 L1 h1 g1 => ?_⟩
    replace C := C.hidL h1 g1
    refine (c_Own a.p a.q a.c (by omega)).call (As := [bagA b k rs, refA b2 k ss]) C hp.2 fun x m1 w2 kk hm1 _ C => ⟨_, _, _, _, _, _, _, _, rfl, kk, facts_nil _ _, ?_⟩
    have C1 : Ctx F m w w2 L1 m1 ([bagA b k rs] ++ slB x.1 x.2 a.p.bs :: [refA b2 k ss]) := Ctx.swap C
    refine (c_PutB b k hk rs a.p x.1 x.2 (by omega)).callL C1 (fun F' hF _ => slLend hF) fun y w3 kk _ C => ⟨_, rfl, kk, facts_nil _ _, ?_⟩
    refine Ctx.gives C (c_num _) fun w4 k4 C => ⟨_, rfl, k4, facts_nil _ _, ?_⟩
    have C2 : Ctx F m w w4 L1 m1 [refA b2 k ss, bagA b k (if (rs.length : Int) ≥ k then rs else rs ++ [(⟨a.p, y, a.p.bs.length⟩ : Pr)])] := (Ctx.swap C).drop.swap
    refine (r_PutB b2 k hk ss a.p a.q a.c (by omega)).call (As := [bagA b k (if (rs.length : Int) ≥ k then rs else rs ++ [(⟨a.p, y, a.p.bs.length⟩ : Pr)])]) C2 (hp.2.mono hm1) fun z m2 w5 kk hm2 hz C => ⟨_, rfl, kk, facts_nil _ _, ?_⟩
    refine ⟨((if (rs.length : Int) ≥ k then rs else rs ++ [(⟨a.p, y, a.p.bs.length⟩ : Pr)]), (if (ss.length : Int) ≥ k then ss else ss ++ [(⟨a.p, z.1, z.2⟩ : Pr)])), m2, L1, ?_, ?_, Ctx.swap C⟩
    · rw [hlen]; simp
    · by_cases hf : (ss.length : Int) ≥ k
      · have hf' : (rs.length : Int) ≥ k := by rw [hlen]; exact hf
        simp only [if_pos hf, if_pos hf']
        exact hP.mono (hm1.le_trans hm2)
      · have hf' : ¬ (rs.length : Int) ≥ k := by rw [hlen]; exact hf
        simp only [if_neg hf, if_neg hf']
        have hz' := hz.resolve_left hf
        have hQ := hP.mono (hm1.le_trans hm2)
        refine ⟨by simp [hQ.eq], fun s hs => ?_, fun s hs => ?_, by simp; omega⟩
        · rcases List.mem_append.1 hs with h | h
          · exact hQ.src s h
          · have : s = ⟨a.p, z.1, z.2⟩ := by simpa using h
            subst this; exact hz'
        · rcases List.mem_append.1 hs with h | h
          · exact hQ.len s h
          · have : s = ⟨a.p, z.1, z.2⟩ := by simpa using h
            subst this; exact hb
  rw [if_neg (by simp [h0])]
  by_cases h1 : a.kd = 1
  · rw [if_pos (by simp [h1])]
    refine ⟨[], facts_nil _ _, fun w1 L1 h1 g1 => ?_⟩
    replace C := C.hidL h1 g1
    refine (c_Own a.p a.q a.c (by omega)).call (As := [bagA b k rs, refA b2 k ss]) C hp.2 fun x m1 w2 kk hm1 _ C => ⟨_, _, _, _, _, _, _, _, rfl, kk, facts_nil _ _, ?_⟩
    have C1 : Ctx F m w w2 L1 m1 ([bagA b k rs] ++ slB x.1 x.2 a.p.bs :: [refA b2 k ss]) := Ctx.swap C
    refine (c_PutB b k hk rs a.p x.1 x.2 (by omega)).callL C1 (fun F' hF _ => slLend hF) fun y w3 kk _ C => ⟨_, rfl, kk, facts_nil _ _, ?_⟩
    refine Ctx.gives C (c_num _) fun w4 k4 C => ⟨_, rfl, k4, facts_nil _ _, ?_⟩
    have C2 : Ctx F m w w4 L1 m1 [refA b2 k ss, bagA b k (if (rs.length : Int) ≥ k then rs else rs ++ [(⟨a.p, y, a.p.bs.length⟩ : Pr)])] := (Ctx.swap C).drop.swap
    refine (r_PutB b2 k hk ss a.p a.q a.c (by omega)).call (As := [bagA b k (if (rs.length : Int) ≥ k then rs else rs ++ [(⟨a.p, y, a.p.bs.length⟩ : Pr)])]) C2 (hp.2.mono hm1) fun z m2 w5 kk hm2 hz C => ⟨_, rfl, kk, facts_nil _ _, ?_⟩
    refine ⟨((if (rs.length : Int) ≥ k then rs else rs ++ [(⟨a.p, y, a.p.bs.length⟩ : Pr)]), (if (ss.length : Int) ≥ k then ss else ss ++ [(⟨a.p, z.1, z.2⟩ : Pr)])), m2, L1, ?_, ?_, Ctx.swap C⟩
    · rw [hlen]; simp
    · by_cases hf : (ss.length : Int) ≥ k
      · have hf' : (rs.length : Int) ≥ k := by rw [hlen]; exact hf
        simp only [if_pos hf, if_pos hf']
        exact hP.mono (hm1.le_trans hm2)
      · have hf' : ¬ (rs.length : Int) ≥ k := by rw [hlen]; exact hf
        simp only [if_neg hf, if_neg hf']
        have hz' := hz.resolve_left hf
        have hQ := hP.mono (hm1.le_trans hm2)
        refine ⟨by simp [hQ.eq], fun s hs => ?_, fun s hs => ?_, by simp; omega⟩
        · rcases List.mem_append.1 hs with h | h
          · exact hQ.src s h
          · have : s = ⟨a.p, z.1, z.2⟩ := by simpa using h
            subst this; exact hz'
        · rcases List.mem_append.1 hs with h | h
          · exact hQ.len s h
          · have : s = ⟨a.p, z.1, z.2⟩ := by simpa using h
            subst this; exact hb
  rw [if_neg (by simp [h1])]
  by_cases h2 : a.kd = 2
  · rw [if_pos (by simp [h2])]
    intro w1 L1 h1 g1
    replace C := C.hidL h1 g1
    by_cases hin : 0 ≤ a.i ∧ a.i < ss.length
    · obtain ⟨n, hn⟩ : ∃ n : Nat, a.i = n := ⟨a.i.toNat, by omega⟩
      have hns : n < ss.length := by omega
      have hnr : n < rs.length := by omega
      have hpe := hP.at_ n hnr hns
      have hbl := hP.len _ (List.getElem_mem hns)
      rw [hn]
      refine (c_LookB b k rs n hnr (by rw [hpe]; omega)).call (As := [refA b2 k ss]) C trivial fun x m1 w2 kk hm1 _ C => ⟨_, _, _, _, _, _, _, _, _, rfl, kk, fun w3 L3 h3 g3 => ?_⟩
      replace C := Ctx.hidL C h3 g3
      obtain ⟨m2, hm2, hs2, C⟩ := Ctx.slShare C
      refine (r_Look b2 k ss n hns).call (As := [bagA b k rs]) (Ctx.swap C) trivial fun _ m3 w4 kk hm3 _ C => ⟨_, _, _, _, _, _, _, _, _, rfl, kk, [], facts_nil _ _, fun w5 L5 h5 g5 => ?_⟩
      replace C := Ctx.hidL C h5 g5
      refine (c_Ref rs[n].p x rs[n].p.bs.length (by rw [hpe]; omega)).call (As := [refA b2 k ss, bagA b k rs]) C (hs2.mono hm3) fun y m4 w6 kk hm4 _ C => ⟨_, _, _, _, _, _, _, _, rfl, kk, facts_nil _ _, ?_⟩
      obtain ⟨m5, hm5, hs5, C⟩ := Ctx.slShare C
      have hm15 := (((hm1.le_trans hm2).le_trans hm3).le_trans hm4).le_trans hm5
      refine (c_Same rs[n].p ss[n].p y.1 ss[n].q y.2 ss[n].c).call (As := _) C ⟨hs5, (hP.src _ (List.getElem_mem hns)).mono hm15⟩ fun _ m6 w7 kk hm6 _ C => ⟨_, rfl, kk, facts_nil _ _, ?_⟩
      rw [hpe, sameP_self, if_pos (show (true == true) = true from rfl)]
      refine Ctx.gives C (c_num _) fun w8 k8 C => ⟨_, rfl, k8, facts_nil _ _, ?_⟩
      exact ⟨(rs, ss), m6, L5, rfl, hP.mono (hm15.le_trans hm6), Ctx.swap C⟩
    · refine (c_NoB 15 (.inr rfl) b k rs a.i (by omega)).call (As := [refA b2 k ss]) C trivial fun _ m1 w2 kk hm1 _ C => ⟨_, _, _, _, _, _, _, _, _, rfl, kk, fun w3 L3 h3 g3 => ?_⟩
      replace C := Ctx.hidL C h3 g3
      refine (r_LookNo b2 k ss a.i hin).call (As := [bagA b k rs]) (Ctx.swap C) trivial fun _ m3 w4 kk hm3 _ C => ⟨_, _, _, _, _, _, _, _, _, rfl, kk, [], facts_nil _ _, fun w5 L5 h5 g5 => ?_⟩
      replace C := Ctx.hidL C h5 g5
      refine (c_Ref ⟨0, 0, 0, 0, [], false⟩ none 0 (by simp)).call (As := [refA b2 k ss, bagA b k rs]) C (.nil ..) fun y m4 w6 kk hm4 _ C => ⟨_, _, _, _, _, _, _, _, rfl, kk, facts_nil _ _, ?_⟩
      obtain ⟨m5, hm5, hs5, C⟩ := Ctx.slShare C
      refine (c_Same ⟨0, 0, 0, 0, [], false⟩ ⟨0, 0, 0, 0, [], false⟩ y.1 none y.2 0).call (As := _) C ⟨hs5, .nil ..⟩ fun _ m6 w7 kk hm6 _ C => ⟨_, rfl, kk, facts_nil _ _, ?_⟩
      rw [sameP_self, if_pos (show (true == true) = true from rfl)]
      refine Ctx.gives C (c_num _) fun w8 k8 C => ⟨_, rfl, k8, facts_nil _ _, ?_⟩
      exact ⟨(rs, ss), m6, L5, rfl, hP.mono ((((hm1.le_trans hm3).le_trans hm4).le_trans hm5).le_trans hm6), Ctx.swap C⟩
  rw [if_neg (by simp [h2])]
  by_cases h3 : a.kd = 3
  · rw [if_pos (by simp [h3])]
    intro w1 L1 h1 g1
    replace C := C.hidL h1 g1
    by_cases hin : 0 ≤ a.i ∧ a.i < ss.length
    · obtain ⟨n, hn⟩ : ∃ n : Nat, a.i = n := ⟨a.i.toNat, by omega⟩
      have hns : n < ss.length := by omega
      have hnr : n < rs.length := by omega
      have hpe := hP.at_ n hnr hns
      have hbl := hP.len _ (List.getElem_mem hns)
      rw [hn]
      refine (c_TakeB b k rs n hnr (by rw [hpe]; omega) (by omega)).call (As := [refA b2 k ss]) C trivial fun x m1 w2 kk hm1 _ C => ⟨_, _, _, _, _, _, _, _, _, rfl, kk, fun w3 L3 h3 g3 => ?_⟩
      replace C := Ctx.hidL C h3 g3
      obtain ⟨m2, hm2, hs2, C⟩ := Ctx.slShare C
      refine (r_Take b2 k ss n hns (by omega)).call (As := [bagA b k (rs.eraseIdx n)]) (Ctx.swap C) trivial fun _ m3 w4 kk hm3 _ C => ⟨_, _, _, _, _, _, _, _, _, rfl, kk, [], facts_nil _ _, fun w5 L5 h5 g5 => ?_⟩
      replace C := Ctx.hidL C h5 g5
      refine (c_Ref rs[n].p x rs[n].p.bs.length (by rw [hpe]; omega)).call (As := [refA b2 k (ss.eraseIdx n), bagA b k (rs.eraseIdx n)]) C (hs2.mono hm3) fun y m4 w6 kk hm4 _ C => ⟨_, _, _, _, _, _, _, _, rfl, kk, facts_nil _ _, ?_⟩
      obtain ⟨m5, hm5, hs5, C⟩ := Ctx.slShare C
      have hm15 := (((hm1.le_trans hm2).le_trans hm3).le_trans hm4).le_trans hm5
      refine (c_Same rs[n].p ss[n].p y.1 ss[n].q y.2 ss[n].c).call (As := _) C ⟨hs5, (hP.src _ (List.getElem_mem hns)).mono hm15⟩ fun _ m6 w7 kk hm6 _ C => ⟨_, rfl, kk, facts_nil _ _, ?_⟩
      rw [hpe, sameP_self, if_pos (show (true == true) = true from rfl)]
      refine Ctx.gives C (c_num _) fun w8 k8 C => ⟨_, rfl, k8, facts_nil _ _, ?_⟩
      exact ⟨((rs.eraseIdx n), (ss.eraseIdx n)), m6, L5, rfl, (hP.erase n).mono (hm15.le_trans hm6), Ctx.swap C⟩
    · refine (c_NoB 12 (.inl rfl) b k rs a.i (by omega)).call (As := [refA b2 k ss]) C trivial fun _ m1 w2 kk hm1 _ C => ⟨_, _, _, _, _, _, _, _, _, rfl, kk, fun w3 L3 h3 g3 => ?_⟩
      replace C := Ctx.hidL C h3 g3
      refine (r_TakeNo b2 k ss a.i hin).call (As := [bagA b k rs]) (Ctx.swap C) trivial fun _ m3 w4 kk hm3 _ C => ⟨_, _, _, _, _, _, _, _, _, rfl, kk, [], facts_nil _ _, fun w5 L5 h5 g5 => ?_⟩
      replace C := Ctx.hidL C h5 g5
      refine (c_Ref ⟨0, 0, 0, 0, [], false⟩ none 0 (by simp)).call (As := [refA b2 k ss, bagA b k rs]) C (.nil ..) fun y m4 w6 kk hm4 _ C => ⟨_, _, _, _, _, _, _, _, rfl, kk, facts_nil _ _, ?_⟩
      obtain ⟨m5, hm5, hs5, C⟩ := Ctx.slShare C
      refine (c_Same ⟨0, 0, 0, 0, [], false⟩ ⟨0, 0, 0, 0, [], false⟩ y.1 none y.2 0).call (As := _) C ⟨hs5, .nil ..⟩ fun _ m6 w7 kk hm6 _ C => ⟨_, rfl, kk, facts_nil _ _, ?_⟩
      rw [sameP_self, if_pos (show (true == true) = true from rfl)]
      refine Ctx.gives C (c_num _) fun w8 k8 C => ⟨_, rfl, k8, facts_nil _ _, ?_⟩
      exact ⟨(rs, ss), m6, L5, rfl, hP.mono ((((hm1.le_trans hm3).le_trans hm4).le_trans hm5).le_trans hm6), Ctx.swap C⟩
  rw [if_neg (by simp [h3])]
  by_cases h4 : a.kd = 4
  · rw [if_pos (by simp [h4])]
    refine ⟨[], facts_nil _ _, fun w1 L1 h1 g1 => ?_⟩
    replace C := C.hidL h1 g1
    refine (c_TwiceB b k hk rs a.i (fun r hr => by have := hP.lenR r hr; omega)).call (As := [refA b2 k ss]) C trivial fun x m1 w2 kk hm1 _ C => ⟨_, rfl, kk, facts_nil _ _, ?_⟩
    refine Ctx.gives C (c_num _) fun w4 k4 C => ⟨_, rfl, k4, facts_nil _ _, ?_⟩
    by_cases hin : 0 ≤ a.i ∧ a.i < ss.length
    · obtain ⟨n, hn⟩ : ∃ n : Nat, a.i = n := ⟨a.i.toNat, by omega⟩
      have hns : n < ss.length := by omega
      have hnr : n < rs.length := by omega
      have hpe := hP.at_ n hnr hns
      have hbl := hP.len _ (List.getElem_mem hns)
      have hin' : 0 ≤ (n : Int) ∧ (n : Int) < rs.length := by omega
      rw [hn] at C ⊢
      have e1 : rs[(n : Int).toNat]? = some rs[n] := by rw [Int.toNat_natCast]; exact List.getElem?_eq_getElem hnr
      simp only [twiceL, if_pos hin', e1] at C
      refine (r_Twice b2 k hk ss n hns (by omega)).call (As := [_]) (Ctx.swap C) ((hP.src _ (List.getElem_mem hns)).mono hm1) fun z m2 w5 kk hm2 hz C => ⟨_, rfl, kk, facts_nil _ _, ?_⟩
      have hQ := hP.mono (hm1.le_trans hm2)
      by_cases hf : (ss.length : Int) ≥ k
      · have hf' : ¬ (rs.length : Int) < k := by omega
        rw [if_neg hf'] at C
        rw [if_pos hf] at C
        refine ⟨(rs, ss), m2, L1, ?_, hQ, Ctx.swap C⟩
        rw [twiceE, if_pos hin', if_neg hf', if_pos hf]; rfl
      · have hf' : (rs.length : Int) < k := by omega
        rw [if_pos hf'] at C
        rw [if_neg hf] at C
        have hz' := hz.resolve_left hf
        refine ⟨(rs ++ [(⟨rs[n].p, x, rs[n].p.bs.length⟩ : Pr)], ss ++ [(⟨ss[n].p, z.1, z.2⟩ : Pr)]), m2, L1, ?_, ?_, Ctx.swap C⟩
        · rw [twiceE, if_pos hin', if_pos hf', if_neg hf]; rfl
        · refine ⟨by simp [hQ.eq, hpe], fun s hs => ?_, fun s hs => ?_, by simp; omega⟩
          · rcases List.mem_append.1 hs with h | h
            · exact hQ.src s h
            · have : s = ⟨ss[n].p, z.1, z.2⟩ := by simpa using h
              subst this; exact hz'
          · rcases List.mem_append.1 hs with h | h
            · exact hQ.len s h
            · have : s = ⟨ss[n].p, z.1, z.2⟩ := by simpa using h
              subst this; exact hbl
    · have hin' : ¬ (0 ≤ a.i ∧ a.i < rs.length) := by omega
      simp only [twiceL, if_neg hin'] at C
      refine (r_TwiceNo b2 k ss a.i hin).call (As := [bagA b k rs]) (Ctx.swap C) trivial fun z m2 w5 kk hm2 hz C => ⟨_, rfl, kk, facts_nil _ _, ?_⟩
      refine ⟨(rs, ss), m2, L1, ?_, hP.mono (hm1.le_trans hm2), Ctx.swap C⟩
      rw [twiceE, if_neg hin']; rfl
  rw [if_neg (by simp [h4])]
  by_cases h5 : a.kd = 5
  · rw [if_pos (by simp [h5])]
    refine ⟨[], facts_nil _ _, fun w1 L1 h1 g1 => ?_⟩
    replace C := C.hidL h1 g1
    refine (c_SpoilB b k rs a.i a.at_ a.mask (fun r hr => by have := hP.lenR r hr; omega)).call (As := [refA b2 k ss]) C trivial fun x m1 w2 kk hm1 _ C => ⟨_, rfl, kk, facts_nil _ _, ?_⟩
    refine Ctx.gives C (c_num _) fun w4 k4 C => ⟨_, rfl, k4, facts_nil _ _, ?_⟩
    by_cases hin : 0 ≤ a.i ∧ a.i < ss.length
    · obtain ⟨n, hn⟩ : ∃ n : Nat, a.i = n := ⟨a.i.toNat, by omega⟩
      have hns : n < ss.length := by omega
      have hnr : n < rs.length := by omega
      have hpe := hP.at_ n hnr hns
      have hbl := hP.len _ (List.getElem_mem hns)
      have hin' : 0 ≤ (n : Int) ∧ (n : Int) < rs.length := by omega
      rw [hn] at C ⊢
      have e1 : rs[(n : Int).toNat]? = some rs[n] := by rw [Int.toNat_natCast]; exact List.getElem?_eq_getElem hnr
      simp only [spoilL, if_pos hin', e1] at C
      rw [Int.toNat_natCast] at C
      refine (r_Spoil b2 k ss (by omega) n hns a.at_ a.mask (by omega)).call (As := [_]) (Ctx.swap C) ((hP.src _ (List.getElem_mem hns)).mono hm1) fun z m2 w5 kk hm2 hz C => ⟨_, rfl, kk, facts_nil _ _, ?_⟩
      have hQ := hP.mono (hm1.le_trans hm2)
      refine ⟨(rs.set n (spoilR rs[n] a.at_ a.mask), (if spoilE ss[n].p a.at_ a.mask = 0 then ss.set n ⟨ss[n].p.spoilt a.at_ a.mask, z.1, z.2⟩ else ss)), m2, L1, ?_, ?_, Ctx.swap C⟩
      · simp only [spoilLE, if_pos hin', e1]; rw [hpe]; simp
      · by_cases hE : spoilE ss[n].p a.at_ a.mask = 0
        · rw [if_pos hE]
          have hz' := hz.resolve_left (fun h => h hE)
          have hE' : spoilE rs[n].p a.at_ a.mask = 0 := by rw [hpe]; exact hE
          refine ⟨?_, fun s hs => ?_, fun s hs => ?_, by simp; exact hmax⟩
          · rw [List.map_set, List.map_set, hQ.eq]
            congr 1
            unfold spoilR; rw [if_pos hE', hpe]; rfl
          · rcases List.mem_or_eq_of_mem_set hs with h | h
            · exact hQ.src s h
            · subst h; exact hz'
          · rcases List.mem_or_eq_of_mem_set hs with h | h
            · exact hQ.len s h
            · subst h
              show (spoil _ _ _ 4).length ≤ 5000
              rw [spoil_len]; exact hbl
        · rw [if_neg hE]
          have hE' : ¬ spoilE rs[n].p a.at_ a.mask = 0 := by rw [hpe]; exact hE
          have : rs.set n (spoilR rs[n] a.at_ a.mask) = rs := by unfold spoilR; rw [if_neg hE']; exact List.set_getElem_self hnr
          rw [this]; exact hQ
    · have hin' : ¬ (0 ≤ a.i ∧ a.i < rs.length) := by omega
      simp only [spoilL, if_neg hin'] at C
      refine (r_SpoilNo b2 k ss a.i a.at_ a.mask hin).call (As := [bagA b k rs]) (Ctx.swap C) trivial fun z m2 w5 kk hm2 hz C => ⟨_, rfl, kk, facts_nil _ _, ?_⟩
      refine ⟨(rs, ss), m2, L1, ?_, hP.mono (hm1.le_trans hm2), Ctx.swap C⟩
      rw [spoilLE, if_neg hin']; rfl
  rw [if_neg (by simp [h5])]
  by_cases h6 : a.kd = 6
  · rw [if_pos (by simp [h6])]
    intro w1 L1 h1 g1
    replace C := C.hidL h1 g1
    obtain ⟨qb, cb, C⟩ := bagO C
    refine (c_All b qb rs.length cb k).call (As := rowsA qb cb rs :: (bytesAs rs ++ [refA b2 k ss])) C trivial fun _ m1 w2 kk hm1 _ C => ⟨_, _, _, rfl, kk, ?_⟩
    have C1 : Ctx F m w w2 L1 m1 (bytesAs rs ++ [refA b2 k ss, bagB b (.slice none 0 0) k, rowsA qb cb rs]) := Ctx.perm C (by
      have : (bagB b (.slice none 0 0) k :: rowsA qb cb rs :: (bytesAs rs ++ [refA b2 k ss])).Perm ((bytesAs rs ++ [refA b2 k ss]) ++ [bagB b (.slice none 0 0) k, rowsA qb cb rs]) := List.perm_append_comm (l₁ := [bagB b (.slice none 0 0) k, rowsA qb cb rs])
      rw [List.append_assoc] at this
      exact this)
    obtain ⟨m2, hm2, hbr, C2⟩ := shareAll rs C1
    refine (r_All b2 k ss).call (As := [bagB b (.slice none 0 0) k, rowsA qb cb rs]) C2 trivial fun z m3 w3 kk hm3 _ C => ⟨_, _, _, rfl, kk, ?_⟩
    rw [if_neg (by simp [hlen])]
    have C3 : Ctx F m w w3 L1 m3 [rowsA qb cb rs, refR z.1 z.2 ss, refA b2 k [], bagB b (.slice none 0 0) k] := Ctx.perm C (List.perm_append_comm (l₁ := [refR z.1 z.2 ss, refA b2 k [], bagB b (.slice none 0 0) k]) (l₂ := [rowsA qb cb rs]))
    refine ⟨fun n w' L' => ∃ j : Nat, n = j ∧ j ≤ rs.length ∧ ∃ m', m3.le m' ∧ Ctx F m w w' L' m' [rowsA qb cb rs, refR z.1 z.2 ss, refA b2 k [], bagB b (.slice none 0 0) k], fun n _ => (rs.length - n).toNat, ⟨0, rfl, by omega, m3, Mem.le_refl _, C3⟩, ?_⟩
    rintro n w4 L4 _ ⟨j, rfl, hj, m4, hm4, C⟩
    have hm34 := hm3.le_trans hm4
    have hmall := (hm1.le_trans hm2).le_trans hm34
    by_cases hlt : j < rs.length
    · rw [if_pos (by simpa using hlt)]
      have hjs : j < ss.length := by omega
      have hpe := hP.at_ j hlt hjs
      obtain ⟨a1, rfl⟩ := slice_some C (rows_ne hlt)
      have hq2 : ∃ a2, z.1 = some a2 := slice_some C.swap (rows_ne hjs)
      obtain ⟨a2, ha2⟩ := hq2
      rw [ha2] at C ⊢
      have hf : ∀ {w' : World} {L' : List Nat} {m' : Mem}, Ctx F m w w' L' m' [rowsA (some a1) cb rs, refR (some a2) z.2 ss, refA b2 k [], bagB b (.slice none 0 0) k] → FactsW [(a1.add (j * 6), rs[j].row), (a2.add (j * 6), ss[j].row)] w' L' := by
        intro w' L' m' C
        have c1 := C.slCells.1 a1 rfl
        have c2 := C.swap.slCells.1 a2 rfl
        have e1 := cells_elem row_len c1.1 j hlt
        have e2 := cells_elem row_len c2.1 j hjs
        have b1 := World.block_lt_of_cell? w' _ (e1 0 _ rfl)
        have b2 := World.block_lt_of_cell? w' _ (e2 0 _ rfl)
        rw [addr_block] at b1 b2
        exact factsMore e1 b1 (by rw [addr_block]; exact c1.2 (rows_ne hlt)) (factsOne e2 b2 (by rw [addr_block]; exact c2.2 (rows_ne hjs)))
      refine ⟨_, hf C, by omega, by omega, ?_⟩
      rw [onSome_some]
      simp only [Int.toNat_natCast]
      refine ⟨_, _, _, _, _, _, _, _, List.mem_cons_self, by omega, by omega, ?_⟩
      rw [onSome_some]
      refine ⟨_, _, _, _, _, _, _, _, List.mem_cons_of_mem _ List.mem_cons_self, fun w5 L5 h5 g5 => ?_⟩
      replace C := C.hidL h5 g5
      have hbl := hP.lenR _ (List.getElem_mem hlt)
      refine (c_Ref rs[j].p rs[j].q rs[j].c (by omega)).call (As := [rowsA (some a1) cb rs, refR (some a2) z.2 ss, refA b2 k [], bagB b (.slice none 0 0) k]) C ((hbr _ (List.getElem_mem hlt)).mono hm34) fun y m6 w6 kk hm6 _ C => ⟨_, _, _, _, _, _, _, _, rfl, kk, hf (Ctx.drop C), ?_⟩
      obtain ⟨m7, hm7, hs7, C⟩ := Ctx.slShare C
      refine (c_Same rs[j].p ss[j].p y.1 ss[j].q y.2 ss[j].c).call (As := [rowsA (some a1) cb rs, refR (some a2) z.2 ss, refA b2 k [], bagB b (.slice none 0 0) k]) C ⟨hs7, (hP.src _ (List.getElem_mem hjs)).mono ((hmall.le_trans hm6).le_trans hm7)⟩ fun _ m8 w7 kk hm8 _ C => ⟨_, rfl, kk, hf C, ?_⟩
      rw [hpe, sameP_self, if_neg (by decide)]
      have e : IntKind.wrap .i64 ((j : Int) + 1) = ((j + 1 : Nat) : Int) := by rw [w_i64 (by omega) (by omega)]; omega
      rw [e]
      refine ⟨by trivial, ⟨j + 1, rfl, hlt, m8, ((hm4.le_trans hm6).le_trans hm7).le_trans hm8, C⟩, ?_⟩
      show ((rs.length : Int) - ((j + 1 : Nat) : Int)).toNat + 1 ≤ ((rs.length : Int) - (j : Int)).toNat
      omega
    · rw [if_neg (by simpa using hlt)]
      refine ⟨([], []), m4, L4, rfl, ⟨rfl, by simp, by simp, by simp; exact hk0⟩, ?_⟩
      have C5 : Ctx F m w w4 L4 m4 [bagB b (.slice none 0 0) k, refA b2 k []] := C.drop.drop.swap
      have C6 : Ctx F m w w4 L4 m4 [bagB b (.slice none 0 0) k, rowsA none 0 [], refA b2 k []] := (C5.slNil (q := none) (ty := 39) (sz := 6)).swap
      exact bagI (rs := []) (q := none) (c := 0) C6
  rw [if_neg (by simp [h6])]
  exact fun w1 h1 => ⟨(rs, ss), m, [], rfl, hP, C.hid0 h1⟩
end Go.Proofs
