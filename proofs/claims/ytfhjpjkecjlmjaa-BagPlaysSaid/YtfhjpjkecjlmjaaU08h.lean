import Derived.Test.YtfhjpjkecjlmjaaU08g
set_option linter.unusedVariables false
set_option linter.unusedSimpArgs false
set_option maxRecDepth 10000
namespace Go.Proofs
open Go X RowKit
/-! ### the bag as one piece -/
theorem own_perm (rs : List Pr) (i : Nat) (hi : i < rs.length) : (bytesAs rs).Perm (rs[i].own :: bytesAs (rs.eraseIdx i)) := map_elem_perm Pr.own rs i hi
section
variable {F0 : List Nat} {m0 : Mem} {w0 w : World} {L : List Nat} {m : Mem} {As : List Asn}
/-- opened at one parcel -/
theorem bagOi {b : Nat} {k : Int} {rs : List Pr} (i : Nat) (hi : i < rs.length) (C : Ctx F0 m0 w0 w L m (bagA b k rs :: As)) : ∃ q c, Ctx F0 m0 w0 w L m ([bagB b (.slice q rs.length c) k, rowsA q c rs, rs[i].own] ++ (bytesAs (rs.eraseIdx i) ++ As)) := by
  obtain ⟨q, c, C⟩ := bagO C
  exact ⟨q, c, C.perm (List.Perm.cons _ (List.Perm.cons _ ((own_perm rs i hi).append_right As)))⟩
theorem bagIi {b : Nat} {k : Int} {rs : List Pr} {q : Option Addr} {c : Nat} (i : Nat) (hi : i < rs.length) (C : Ctx F0 m0 w0 w L m ([bagB b (.slice q rs.length c) k, rowsA q c rs, rs[i].own] ++ (bytesAs (rs.eraseIdx i) ++ As))) : Ctx F0 m0 w0 w L m (bagA b k rs :: As) :=
  bagI (C.perm (List.Perm.cons _ (List.Perm.cons _ ((own_perm rs i hi).symm.append_right As))))
end
theorem c_PutB (b : Nat) (k : Int) (hk : k ≤ 2000) (rs : List Pr) (p : Pc) (q : Option Addr) (c : Nat) (hs : p.bs.length ≤ 1000000) :
    Ctr Try.prog 10 #[.pointer (some ⟨b, 0, none⟩), p.V q c] (fun m => MSrc m 1 (.slice q p.bs.length c) p.bs.length (byV p.bs)) [bagA b k rs]
      (fun _ : Option Addr => .int .i64 (if (rs.length : Int) ≥ k then 11 else 0)) (fun _ _ => True) (fun x => [bagA b k (if (rs.length : Int) ≥ k then rs else rs ++ [(⟨p, x, p.bs.length⟩ : Pr)])]) := by
  refine Ctr.mk fun w F m C hp => ?_
  obtain ⟨qb, cb, C⟩ := bagO C
  by_cases h : (rs.length : Int) ≥ k
  · refine (c_PutFull b (qb, rs.length, cb) k p q c h).calls (As := rowsA qb cb rs :: (bytesAs rs ++ [])) C trivial fun _ m1 w1 _ _ _ C => ?_
    exact ⟨none, m1, [], by rw [if_pos h], trivial, by rw [if_pos h]; exact bagI C⟩
  · refine (c_PutOk b k hk rs qb cb p q c hs (by omega)).calls (As := bytesAs rs ++ []) C hp fun x m1 w1 _ _ _ C => ?_
    refine ⟨x.1, m1, [], by rw [if_neg h], trivial, ?_⟩
    rw [if_neg h]
    refine bagI (Ctx.perm C (List.Perm.cons _ (List.Perm.cons _ ?_)))
    have e2 : bytesAs (rs ++ [(⟨p, x.1, p.bs.length⟩ : Pr)]) ++ [] = bytesAs rs ++ [slB x.1 p.bs.length p.bs] := by simp [bytesAs, Pr.own]
    rw [e2, List.append_nil]
    exact List.perm_append_comm (l₁ := [slB x.1 p.bs.length p.bs])
theorem c_TakeB (b : Nat) (k : Int) (rs : List Pr) (i : Nat) (hi : i < rs.length) (hs : rs[i].p.bs.length ≤ 1000000) (hn : rs.length ≤ 2000) :
    Ctr Try.prog 12 #[.pointer (some ⟨b, 0, none⟩), .int .i64 i] noMem [bagA b k rs] (fun x : Option Addr => .tuple #[rs[i].p.V x rs[i].p.bs.length, .int .i64 0]) (fun _ _ => True) (fun x => [slB x rs[i].p.bs.length rs[i].p.bs, bagA b k (rs.eraseIdx i)]) := by
  refine Ctr.mk fun w F m C hp => ?_
  obtain ⟨qb, cb, C⟩ := bagOi i hi C
  refine (c_Take b k rs qb cb i hi hs hn).calls C trivial fun x m1 w1 _ _ _ C => ?_
  exact Ctr.ret x rfl trivial (bagI (As := [slB x rs[i].p.bs.length rs[i].p.bs]) (Ctx.perm C (List.Perm.cons _ (List.Perm.cons _ (by
    rw [List.append_nil]; exact List.perm_append_comm (l₁ := [slB x rs[i].p.bs.length rs[i].p.bs]))))) |>.swap)
theorem c_LookB (b : Nat) (k : Int) (rs : List Pr) (i : Nat) (hi : i < rs.length) (hs : rs[i].p.bs.length ≤ 1000000) :
    Ctr Try.prog 15 #[.pointer (some ⟨b, 0, none⟩), .int .i64 i] noMem [bagA b k rs] (fun x : Option Addr => .tuple #[rs[i].p.V x rs[i].p.bs.length, .int .i64 0]) (fun _ _ => True) (fun x => [slB x rs[i].p.bs.length rs[i].p.bs, bagA b k rs]) := by
  refine Ctr.mk fun w F m C hp => ?_
  obtain ⟨qb, cb, C⟩ := bagOi i hi C
  refine (c_Look b k rs qb cb i hi hs).calls C trivial fun x m1 w1 _ _ _ C => ?_
  exact Ctr.ret x rfl trivial (bagIi i hi (q := qb) (c := cb) (As := [slB x rs[i].p.bs.length rs[i].p.bs]) (Ctx.perm C (by
    rw [List.append_nil]
    refine (List.perm_append_comm (l₁ := [slB x rs[i].p.bs.length rs[i].p.bs])).trans ?_
    exact List.Perm.of_eq (List.append_assoc [bagB b (.slice qb rs.length cb) k, rowsA qb cb rs, rs[i].own] (bytesAs (rs.eraseIdx i)) [slB x rs[i].p.bs.length rs[i].p.bs]))) |>.swap)
theorem c_NoB (x : Nat) (hx : x = 12 ∨ x = 15) (b : Nat) (k : Int) (rs : List Pr) (i : Int) (h : i < 0 ∨ (rs.length : Int) ≤ i) :
    Ctr Try.prog x #[.pointer (some ⟨b, 0, none⟩), .int .i64 i] noMem [bagA b k rs] (fun _ : Unit => .tuple #[Pc.V ⟨0, 0, 0, 0, [], false⟩ none 0, .int .i64 3]) (fun _ _ => True) (fun _ => [bagA b k rs]) := by
  refine Ctr.mk fun w F m C hp => ?_
  obtain ⟨qb, cb, C⟩ := bagO C
  rcases hx with rfl | rfl
  · exact (c_TakeNo b qb rs.length cb k i h).calls (As := rowsA qb cb rs :: (bytesAs rs ++ [])) C trivial fun _ m1 w1 _ _ _ C => Ctr.ret () rfl trivial (bagI C)
  · exact (c_LookNo b qb rs.length cb k i h).calls (As := rowsA qb cb rs :: (bytesAs rs ++ [])) C trivial fun _ m1 w1 _ _ _ C => Ctr.ret () rfl trivial (bagI C)
/-- what 'twice' leaves -/
def twiceL (rs : List Pr) (k i : Int) (x : Option Addr) : List Pr := if 0 ≤ i ∧ i < rs.length then (match rs[i.toNat]? with | some r => if (rs.length : Int) < k then rs ++ [⟨r.p, x, r.p.bs.length⟩] else rs | none => rs) else rs
def twiceE (n : Nat) (k i : Int) : Int := if 0 ≤ i ∧ i < n then (if (n : Int) < k then 0 else 11) else 3
theorem c_TwiceB (b : Nat) (k : Int) (hk : k ≤ 2000) (rs : List Pr) (i : Int) (hs : ∀ r ∈ rs, r.p.bs.length ≤ 1000000) :
    Ctr Try.prog 13 #[.pointer (some ⟨b, 0, none⟩), .int .i64 i] noMem [bagA b k rs] (fun _ : Option Addr => .int .i64 (twiceE rs.length k i)) (fun _ _ => True) (fun x => [bagA b k (twiceL rs k i x)]) := by
  refine Ctr.mk fun w F m C hp => ?_
  by_cases hi : 0 ≤ i ∧ i < rs.length
  · obtain ⟨n, rfl⟩ : ∃ n : Nat, i = n := ⟨i.toNat, by omega⟩
    have hn : n < rs.length := by omega
    obtain ⟨qb, cb, C⟩ := bagOi n hn C
    have e1 : rs[(n : Int).toNat]? = some rs[n] := by rw [Int.toNat_natCast]; exact List.getElem?_eq_getElem hn
    by_cases h : (rs.length : Int) < k
    · refine (c_TwiceOk b k hk rs qb cb n hn (hs _ (List.getElem_mem hn)) h).calls C trivial fun x m1 w1 _ _ _ C => ?_
      refine ⟨x.1, m1, [], by rw [twiceE, if_pos hi, if_pos h], trivial, ?_⟩
      simp only [twiceL, if_pos hi, e1, if_pos h]
      refine bagI (Ctx.perm C (List.Perm.cons _ (List.Perm.cons _ ?_)))
      have e2 : bytesAs (rs ++ [(⟨rs[n].p, x.1, rs[n].p.bs.length⟩ : Pr)]) ++ [] = bytesAs rs ++ [slB x.1 rs[n].p.bs.length rs[n].p.bs] := by simp [bytesAs, Pr.own]
      rw [e2, List.append_nil]
      refine List.Perm.trans (List.Perm.cons _ (own_perm rs n hn).symm) ?_
      exact List.perm_append_comm (l₁ := [slB x.1 rs[n].p.bs.length rs[n].p.bs])
    · refine (c_TwiceFull b k rs qb cb n hn (by omega)).calls (As := rs[n].own :: (bytesAs (rs.eraseIdx n) ++ [])) C trivial fun x m1 w1 _ _ _ C => ?_
      refine ⟨none, m1, [], by rw [twiceE, if_pos hi, if_neg h], trivial, ?_⟩
      simp only [twiceL, if_pos hi, e1, if_neg h]
      exact bagIi n hn C
  · obtain ⟨qb, cb, C⟩ := bagO C
    refine (c_TwiceNo b qb rs.length cb k i (by omega)).calls (As := rowsA qb cb rs :: (bytesAs rs ++ [])) C trivial fun x m1 w1 _ _ _ C => ?_
    exact ⟨none, m1, [], by rw [twiceE, if_neg hi], trivial, by rw [twiceL, if_neg hi]; exact bagI C⟩
def spoilL (rs : List Pr) (i a mask : Int) : List Pr := if 0 ≤ i ∧ i < rs.length then (match rs[i.toNat]? with | some r => rs.set i.toNat (spoilR r a mask) | none => rs) else rs
def spoilLE (rs : List Pr) (i a mask : Int) : Int := if 0 ≤ i ∧ i < rs.length then (match rs[i.toNat]? with | some r => spoilE r.p a mask | none => 3) else 3
theorem c_SpoilB (b : Nat) (k : Int) (rs : List Pr) (i a mask : Int) (hs : ∀ r ∈ rs, r.p.bs.length ≤ 1000000) :
    Ctr Try.prog 14 #[.pointer (some ⟨b, 0, none⟩), .int .i64 i, .int .i64 a, .int .u32 mask] noMem [bagA b k rs] (fun _ : Unit => .int .i64 (spoilLE rs i a mask)) (fun _ _ => True) (fun x => [bagA b k (spoilL rs i a mask)]) := by
  refine Ctr.mk fun w F m C hp => ?_
  by_cases hi : 0 ≤ i ∧ i < rs.length
  · obtain ⟨n, rfl⟩ : ∃ n : Nat, i = n := ⟨i.toNat, by omega⟩
    have hn : n < rs.length := by omega
    obtain ⟨qb, cb, C⟩ := bagOi n hn C
    have e1 : rs[(n : Int).toNat]? = some rs[n] := by rw [Int.toNat_natCast]; exact List.getElem?_eq_getElem hn
    refine (c_Spoil b k rs qb cb n hn a mask (hs _ (List.getElem_mem hn))).calls C trivial fun _ m1 w1 _ _ _ C => ?_
    refine ⟨(), m1, [], by simp only [spoilLE, if_pos hi, e1], trivial, ?_⟩
    have e5 : spoilL rs (n : Int) a mask = rs.set n (spoilR rs[n] a mask) := by simp only [spoilL, if_pos hi, e1]; rw [Int.toNat_natCast]
    rw [e5]
    have hn2 : n < (rs.set n (spoilR rs[n] a mask)).length := by simp [hn]
    have e3 : (rs.set n (spoilR rs[n] a mask))[n] = spoilR rs[n] a mask := by simp
    have e4 : (rs.set n (spoilR rs[n] a mask)).eraseIdx n = rs.eraseIdx n := by
      rw [List.eraseIdx_eq_take_drop_succ, List.eraseIdx_eq_take_drop_succ, List.take_set_of_le (Nat.le_refl _), List.drop_set_of_lt (by omega)]
    refine bagIi n hn2 (q := qb) (c := cb) ?_
    rw [e3, e4]
    exact C
  · obtain ⟨qb, cb, C⟩ := bagO C
    refine (c_SpoilNo b qb rs.length cb k i a mask (by omega)).calls (As := rowsA qb cb rs :: (bytesAs rs ++ [])) C trivial fun x m1 w1 _ _ _ C => ?_
    exact ⟨(), m1, [], by rw [spoilLE, if_neg hi], trivial, by rw [spoilL, if_neg hi]; exact bagI C⟩
end Go.Proofs
