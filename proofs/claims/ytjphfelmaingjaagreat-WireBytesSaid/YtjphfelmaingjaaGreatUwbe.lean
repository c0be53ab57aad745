import Derived.Test.YtjphfelmaingjaaGreatUwbd
import Derived.Test.YtjphfelmaingjaaGreatVwbd
set_option linter.unusedVariables false
set_option linter.unusedSimpArgs false
set_option maxHeartbeats 1000000
set_option maxRecDepth 10000
namespace Go.Proofs
open Go X RowKit
def Mv.z (k : Int) : Mv := ⟨k, 0, 0, 0, 0, 0, 0, 0, 0, I.zero, [], 0, ByteArray.mk #[], 0, 0, [], 0, 0, false, [], [], []⟩
def getL (x : Mv) (c : Int) (s : St) : Mv × St :=
  if c = 103 then ({ x with gr := ((bS s).1.toNat : Nat) }, (bS s).2)
  else if c = 105 then ({ x with id := (idS s).1 }, (idS s).2)
  else if c = 102 then ({ x with fl := ((uS 4294967295 s).1 : Nat) }, (uS 4294967295 s).2)
  else if c = 112 then ({ x with ps := (ptsS s).1 }, (ptsS s).2)
  else if c = 114 then ({ x with rc := (resS s).1.c, rv := (resS s).1.v }, (resS s).2)
  else if c = 118 then ({ x with vg := (vwS s).1.1, vn := (vwS s).1.2.1, vm := (vwS s).1.2.2 }, (vwS s).2)
  else if c = 99 then ({ x with co := ((bS s).1.toNat : Nat) }, (bS s).2)
  else if c = 110 then ({ x with nn := ((uS 4294967295 s).1 : Nat) }, (uS 4294967295 s).2)
  else if c = 97 then ({ x with fr := ((uS 4294967295 s).1 : Nat) }, (uS 4294967295 s).2)
  else if c = 107 then ({ x with cm := ((uS 4294967295 s).1 : Nat) }, (uS 4294967295 s).2)
  else if c = 101 then ({ x with es := (evsS s).1 }, (evsS s).2)
  else if c = 98 then ({ x with ba := ((uS M64n s).1 : Nat) }, (uS M64n s).2)
  else if c = 104 then ({ x with has := (flagS s).1 }, (flagS s).2)
  else if c = 120 then ({ x with ac := ((uS M64n s).1 : Nat) }, (uS M64n s).2)
  else if c = 109 then ({ x with ms := (prsS s).1, ts := (evsS (prsS s).2).1 }, (evsS (prsS s).2).2)
  else if c = 115 then ({ x with pn := ((procS s).1.1.toNat : Nat), pl := ((procS s).1.2 : Nat) }, (procS s).2)
  else (x, s)
def foldG : List UInt8 → Mv → St → Mv × St
  | [], x, s => (x, s)
  | c :: l, x, s => foldG l (getL x ((c.toNat : Nat) : Int) s).1 (getL x ((c.toNat : Nat) : Int) s).2
def msgH (a : Mv × St) (k : Int) : Mv × St := if k = 8 ∧ a.1.has = true then foldG [120, 109] a.1 a.2 else a
def msgG (k : Int) (s : St) : Mv × St := msgH (foldG (fldS k) (Mv.z k) s) k
section
variable {F0 : List Nat} {m0 m : Mem} {w0 w : World} {L : List Nat} {b bm : Nat} {r : Rd} {x : Mg}
theorem mgPut (C : Ctx F0 m0 w0 w L m [rA b r, blk bm x.row 59]) (o : Nat) (vs : List Value) (h : o + vs.length ≤ 31) (y : Mg) (e : splice x.row o vs = y.row) : Ctx F0 m0 w0 (w.setCells bm o vs) L m [rA b r, blk bm y.row 59] := by
  have := (C.swap.store o vs h).swap
  rw [e] at this; exact this
theorem pGr (C : Ctx F0 m0 w0 w L m [rA b r, blk bm x.row 59]) (v : Int) : Ctx F0 m0 w0 (w.setCells bm 1 [.int .u8 v]) L m [rA b r, blk bm (Mg.row { x with gr := v }) 59] := mgPut C 1 _ (Nat.le_of_ble_eq_true rfl) _ rfl
theorem pCo (C : Ctx F0 m0 w0 w L m [rA b r, blk bm x.row 59]) (v : Int) : Ctx F0 m0 w0 (w.setCells bm 2 [.int .u8 v]) L m [rA b r, blk bm (Mg.row { x with co := v }) 59] := mgPut C 2 _ (Nat.le_of_ble_eq_true rfl) _ rfl
theorem pNn (C : Ctx F0 m0 w0 w L m [rA b r, blk bm x.row 59]) (v : Int) : Ctx F0 m0 w0 (w.setCells bm 3 [.int .u32 v]) L m [rA b r, blk bm (Mg.row { x with nn := v }) 59] := mgPut C 3 _ (Nat.le_of_ble_eq_true rfl) _ rfl
theorem pFr (C : Ctx F0 m0 w0 w L m [rA b r, blk bm x.row 59]) (v : Int) : Ctx F0 m0 w0 (w.setCells bm 4 [.int .u32 v]) L m [rA b r, blk bm (Mg.row { x with fr := v }) 59] := mgPut C 4 _ (Nat.le_of_ble_eq_true rfl) _ rfl
theorem pCm (C : Ctx F0 m0 w0 w L m [rA b r, blk bm x.row 59]) (v : Int) : Ctx F0 m0 w0 (w.setCells bm 5 [.int .u32 v]) L m [rA b r, blk bm (Mg.row { x with cm := v }) 59] := mgPut C 5 _ (Nat.le_of_ble_eq_true rfl) _ rfl
theorem pFl (C : Ctx F0 m0 w0 w L m [rA b r, blk bm x.row 59]) (v : Int) : Ctx F0 m0 w0 (w.setCells bm 6 [.int .u32 v]) L m [rA b r, blk bm (Mg.row { x with fl := v }) 59] := mgPut C 6 _ (Nat.le_of_ble_eq_true rfl) _ rfl
theorem pAc (C : Ctx F0 m0 w0 w L m [rA b r, blk bm x.row 59]) (v : Int) : Ctx F0 m0 w0 (w.setCells bm 8 [.int .u64 v]) L m [rA b r, blk bm (Mg.row { x with ac := v }) 59] := mgPut C 8 _ (Nat.le_of_ble_eq_true rfl) _ rfl
theorem pId (C : Ctx F0 m0 w0 w L m [rA b r, blk bm x.row 59]) (v : I) : Ctx F0 m0 w0 (w.setCells bm 9 v.row) L m [rA b r, blk bm (Mg.row { x with id := v }) 59] := mgPut C 9 _ (Nat.le_of_ble_eq_true rfl) _ rfl
theorem pPs (C : Ctx F0 m0 w0 w L m [rA b r, blk bm x.row 59]) (q : Sl) (l : List Pt) : Ctx F0 m0 w0 (w.setCells bm 19 [slV q l.length]) L m [rA b r, blk bm (Mg.row { x with pq := q, ps := l }) 59] := mgPut C 19 _ (Nat.le_of_ble_eq_true rfl) _ rfl
theorem pRes (C : Ctx F0 m0 w0 w L m [rA b r, blk bm x.row 59]) (v : Rs) : Ctx F0 m0 w0 (w.setCells bm 20 [.int .u8 v.c, .string v.v]) L m [rA b r, blk bm (Mg.row { x with rc := v.c, rv := v.v }) 59] := mgPut C 20 _ (Nat.le_of_ble_eq_true rfl) _ rfl
theorem pVw (C : Ctx F0 m0 w0 w L m [rA b r, blk bm x.row 59]) (g n : Int) (q : Sl) (l : List Pr) : Ctx F0 m0 w0 (w.setCells bm 22 (Vw.row ⟨g, n, q, l⟩)) L m [rA b r, blk bm (Mg.row { x with vg := g, vn := n, vq := q, vm := l }) 59] := mgPut C 22 _ (Nat.le_of_ble_eq_true rfl) _ rfl
theorem pPr (C : Ctx F0 m0 w0 w L m [rA b r, blk bm x.row 59]) (n l : Int) : Ctx F0 m0 w0 (w.setCells bm 25 [.int .u8 n, .int .u16 l]) L m [rA b r, blk bm (Mg.row { x with pn := n, pl := l }) 59] := mgPut C 25 _ (Nat.le_of_ble_eq_true rfl) _ rfl
theorem pHas (C : Ctx F0 m0 w0 w L m [rA b r, blk bm x.row 59]) (v : Bool) : Ctx F0 m0 w0 (w.setCells bm 27 [.bool v]) L m [rA b r, blk bm (Mg.row { x with has := v }) 59] := mgPut C 27 _ (Nat.le_of_ble_eq_true rfl) _ rfl
theorem pEs (C : Ctx F0 m0 w0 w L m [rA b r, blk bm x.row 59]) (q : Sl) (l : List En) : Ctx F0 m0 w0 (w.setCells bm 29 [slV q l.length]) L m [rA b r, blk bm (Mg.row { x with eq := q, es := l }) 59] := mgPut C 29 _ (Nat.le_of_ble_eq_true rfl) _ rfl
theorem mgThere (C : Ctx F0 m0 w0 w L m [rA b r, blk bm x.row 59]) (o n : Nat) (h : o + n ≤ 31) : World.there w bm o n := C.swap.there o n h
theorem mgNot (C : Ctx F0 m0 w0 w L m [rA b r, blk bm x.row 59]) : bm ∉ L := C.swap.blkAt.2
end
theorem c_rdword (b : Nat) (r : Rd) : Ctr Tryz.prog 86 #[.agg #[.pointer (some ⟨b, 0, none⟩)]] (fun m => r.ok m) [rA b r] (fun _ : Rd => .int .u32 ((uS 4294967295 r.st).1 : Int)) (fun r' m => r'.ok m ∧ r'.st = (uS 4294967295 r.st).2) (fun r' => [rA b r']) := by
  refine Ctr.mk fun w F m C hr => x_rdword _ w _ fun w1 L2 h1 g1 => ?_
  have hlt := uS_lt 4294967295 r.st (by decide)
  exact (c_RU b r 4294967295 (by decide)).call (As := []) (C.hidL h1 g1) hr fun r1 m2 w4 hk hm h1 C => ⟨_, rfl, hk, Ctr.ret (m' := m2) (L := L2) r1 (by rw [w_u32 (by omega) (by omega)]) h1 C⟩
def rndS (s : St) : St := (uS M64n (uS 4294967295 (bS s).2).2).2
def Mg.rnd (x : Mg) (s : St) : Mg := { x with gr := ((bS s).1.toNat : Nat), nn := ((uS 4294967295 (bS s).2).1 : Nat), ba := ((uS M64n (uS 4294967295 (bS s).2).2).1 : Nat) }
theorem c_rdround (b bm : Nat) (r : Rd) (x : Mg) : Ctr Tryz.prog 91 #[.agg #[.pointer (some ⟨b, 0, none⟩)], .pointer (some ⟨bm, 0, none⟩)] (fun m => r.ok m) [rA b r, blk bm x.row 59] (fun _ : Rd => .tuple #[]) (fun r' m => r'.ok m ∧ r'.st = rndS r.st) (fun r' => [rA b r', blk bm (x.rnd r.st).row 59]) := by
  refine Ctr.mk fun w F m C hr => x_rdround _ _ w _ ⟨[], facts_nil _ _, fun w2 L3 h2 g2 => ?_⟩
  refine (c_RB b r).call (As := [_]) (C.hidL h2 g2) hr fun r1 m1 w5 hk hm1 p1 C => ⟨_, rfl, hk, facts_nil _ _, ?_⟩
  refine (c_rdword b r1).call (As := [_]) C p1.1 fun r2 m2 w8 hk hm2 p2 C => ⟨_, rfl, hk, facts_nil _ _, ?_⟩
  refine (c_rdwide b r2).call (As := [_]) C p2.1 fun r3 m3 w11 hk hm3 p3 C => ⟨_, rfl, hk, facts_nil _ _, rfl, ?_⟩
  replace C : Ctx F m w w11 L3 m3 [rA b r3, blk bm x.row 59] := C
  have C1 := mgPut C 1 [.int .u8 ((bS r.st).1.toNat : Int)] (Nat.le_of_ble_eq_true rfl) { x with gr := ((bS r.st).1.toNat : Nat) } rfl
  have C2 := mgPut C1 3 [.int .u32 ((uS 4294967295 r1.st).1 : Int)] (Nat.le_of_ble_eq_true rfl) { x with gr := ((bS r.st).1.toNat : Nat), nn := ((uS 4294967295 r1.st).1 : Nat) } rfl
  have C3 := mgPut C2 7 [.int .u64 ((uS M64n r2.st).1 : Int)] (Nat.le_of_ble_eq_true rfl) { x with gr := ((bS r.st).1.toNat : Nat), nn := ((uS 4294967295 r1.st).1 : Nat), ba := ((uS M64n r2.st).1 : Nat) } rfl
  refine ⟨mgThere C 1 1 (by decide), mgNot C, facts_nil _ _, rfl, mgThere C1 3 1 (by decide), mgNot C1, facts_nil _ _, rfl, mgThere C2 7 1 (by decide), mgNot C2, ?_⟩
  refine Ctr.ret (m' := m3) (L := L3) r3 rfl ⟨p3.1, by rw [rndS, ← p1.2, ← p2.2]; exact p3.2⟩ ?_
  rw [Mg.rnd, ← p1.2, ← p2.2]; exact C3
structure ValM (m : Mem) (s : St) (p : Sl × Sl × List En × Rd) : Prop where
  mm : MSrc m 2 (slV p.1 (prsS s).1.length) (prsS s).1.length ((prsS s).1.flatMap Pr.row)
  mc : (prsS s).1.length ≤ p.1.2
  t : EsC m p.2.1 p.2.2.1
  e : p.2.2.1.map En.er = (evsS (prsS s).2).1
  ok : p.2.2.2.ok m
  st : p.2.2.2.st = (evsS (prsS s).2).2
theorem c_rdvalue (b bm : Nat) (r : Rd) (x : Mg) : Ctr Tryz.prog 94 #[.agg #[.pointer (some ⟨b, 0, none⟩)], .pointer (some ⟨bm, 0, none⟩)] (fun m => r.ok m) [rA b r, blk bm x.row 59] (fun _ : Sl × Sl × List En × Rd => .tuple #[]) (fun p m => ValM m r.st p) (fun p => [rA b p.2.2.2, blk bm (Mg.row { x with mq := p.1, ms := (prsS r.st).1, tq := p.2.1, ts := p.2.2.1 }) 59]) := by
  refine Ctr.mk fun w F m C hr => x_rdvalue _ _ w _ ⟨[], facts_nil _ _, fun w2 L3 h2 g2 => ?_⟩
  refine (c_RB b r).call (As := [_]) (C.hidL h2 g2) hr fun r1 m1 w5 hk hm1 p1 C => ⟨_, rfl, hk, facts_nil _ _, ?_⟩
  have hlt := bS_lt r.st
  rw [w_i64 (by omega) (by omega)]
  refine (c_someM b r1 (bS r.st).1.toNat (by omega)).call (As := [_]) C p1.1 fun p m2 w8 hk hm2 p2 C => ⟨_, _, _, rfl, hk, facts_nil _ _, rfl, ?_⟩
  obtain ⟨q, r2⟩ := p
  have hp : okE (someS prS (bS r.st).1.toNat r1.st) = prsS r.st := by rw [prsS, p1.2]
  rw [hp] at p2 ⊢
  replace C : Ctx F m w w8 L3 m2 [rA b r2, blk bm x.row 59] := C
  have C1 := mgPut C 28 [slV q (prsS r.st).1.length] (Nat.le_of_ble_eq_true rfl) { x with mq := q, ms := (prsS r.st).1 } rfl
  refine ⟨mgThere C 28 1 (by decide), mgNot C, ?_⟩
  refine (c_eGetAll b r2).call (As := [_]) C1 p2.2.2.1 fun p m3 w13 hk hm3 p3 C => ⟨_, _, _, rfl, hk, rfl, ?_⟩
  obtain ⟨tq, ts, r3⟩ := p
  replace C : Ctx F m w w13 L3 m3 [rA b r3, blk bm (Mg.row { x with mq := q, ms := (prsS r.st).1 }) 59] := C
  have C2 := mgPut C 30 [slV tq ts.length] (Nat.le_of_ble_eq_true rfl) { x with mq := q, ms := (prsS r.st).1, tq := tq, ts := ts } rfl
  refine ⟨mgThere C 30 1 (by decide), mgNot C, ?_⟩
  have hst : r2.st = (prsS r.st).2 := p2.2.2.2
  rw [hst] at p3
  exact Ctr.ret (m' := m3) (L := L3) (q, tq, ts, r3) rfl ⟨p2.1.mono hm3, p2.2.1, p3.1, p3.2.1, p3.2.2.1, p3.2.2.2⟩ C2
theorem es_len {m : Mem} {q : Sl} {l : List En} {s : St} (h : l.map En.er = (evsS s).1) : l.length ≤ 100000 := by
  have h1 := evsS_len s
  have h2 := congrArg List.length h
  rw [List.length_map] at h2
  omega
abbrev RdM (b bm : Nat) (r : Rd) (k : Int) : Prop := Ctr Tryz.prog 36 #[.agg #[.pointer (some ⟨b, 0, none⟩)], .pointer (some ⟨bm, 0, none⟩)] (fun m => r.ok m) [rA b r, blk bm (Mg.z k).row 59] (fun _ : Mg × Rd => .bool (decide (k ≤ 13))) (fun p m => MgM m p.1 ∧ MgC p.1 ∧ p.1.er = (msgG k r.st).1 ∧ p.2.ok m ∧ p.2.st = (msgG k r.st).2) (fun p => [rA b p.2, blk bm p.1.row 59])
theorem vwS_len (s : St) : (vwS s).1.2.2.length ≤ 255 := by
  have h := prsS_len (uS 4294967295 (bS s).2).2
  simp only [vwS]
  split
  · exact Nat.zero_le _
  · exact h
theorem c_rdmsg_0 (b bm : Nat) (r : Rd) : RdM b bm r 0 := by
  refine Ctr.mk fun w F m C hr => x_rdmsg _ _ w _ ⟨0, C.swap.blkCell (j := 0) rfl, ?_⟩
  repeat (first | rw [if_pos (by decide)] | rw [if_neg (by decide)])
  intro wa La ha ga
  replace C := C.hidL ha ga
  refine (c_RB b r).call (As := [_]) C hr fun r1 m1 w1 hk hm1 p1 C => ⟨_, rfl, hk, rfl, ?_⟩
  refine ⟨mgThere C 1 1 (by decide), mgNot C, ?_⟩
  replace C := pGr C ((((bS r.st).1.toNat : Nat) : Int))
  refine (c_GetID b r1).call (As := [_]) C p1.1 fun r2 m2 w2 hk hm2 p2 C => ⟨_, _, _, _, _, _, _, _, _, _, rfl, hk, rfl, ?_⟩
  refine ⟨mgThere C 9 10 (by decide), mgNot C, ?_⟩
  replace C := pId C (idS r1.st).1
  refine (c_rdword b r2).call (As := [_]) C p2.1 fun r3 m3 w3 hk hm3 p3 C => ⟨_, rfl, hk, rfl, ?_⟩
  refine ⟨mgThere C 6 1 (by decide), mgNot C, ?_⟩
  replace C := pFl C ((((uS 4294967295 r2.st).1 : Nat) : Int))
  refine (c_pGetAll b r3).call (As := [_]) C p3.1 fun p m4 w4 hk hm4 p4 C => ⟨_, _, _, rfl, hk, rfl, ?_⟩
  obtain ⟨pq, rp⟩ := p
  obtain ⟨pM, pC, pO, pS⟩ := p4
  refine ⟨mgThere C 19 1 (by decide), mgNot C, ?_⟩
  replace C := pPs C pq (ptsS r3.st).1
  have pl := ptsS_len r3.st
  refine Ctr.ret (m' := m4) (L := La) (_, rp) rfl ⟨?_, ?_, ?_, pO, ?_⟩ C
  · exact ⟨pM, .nil .., .nil .., esNil _, esNil _, Nat.le_trans pl (by decide), Nat.zero_le _, Nat.zero_le _, Nat.zero_le _, Nat.zero_le _⟩
  · exact ⟨pC, Nat.le_refl _, Nat.le_refl _, (fun _ h => nomatch h), (fun _ h => nomatch h)⟩
  · simp only [Mg.er, p1.2, p2.2, p3.2, pS] <;> rfl
  · simp only [p1.2, p2.2, p3.2, pS] <;> rfl
theorem c_rdmsg_1 (b bm : Nat) (r : Rd) : RdM b bm r 1 := by
  refine Ctr.mk fun w F m C hr => x_rdmsg _ _ w _ ⟨1, C.swap.blkCell (j := 0) rfl, ?_⟩
  repeat (first | rw [if_pos (by decide)] | rw [if_neg (by decide)])
  intro wa La ha ga
  replace C := C.hidL ha ga
  refine (c_GetID b r).call (As := [_]) C hr fun r1 m1 w1 hk hm1 p1 C => ⟨_, _, _, _, _, _, _, _, _, _, rfl, hk, rfl, ?_⟩
  refine ⟨mgThere C 9 10 (by decide), mgNot C, ?_⟩
  replace C := pId C (idS r.st).1
  refine (c_GetRes b r1).call (As := [_]) C p1.1 fun r2 m2 w2 hk hm2 p2 C => ⟨_, _, rfl, hk, rfl, ?_⟩
  refine ⟨mgThere C 20 2 (by decide), mgNot C, ?_⟩
  replace C := pRes C (resS r1.st).1
  refine (c_vGet b r2).call (As := [_]) C p2.1 fun p m3 w3 hk hm3 p3 C => ⟨_, _, _, _, _, rfl, hk, rfl, ?_⟩
  obtain ⟨vq, rv⟩ := p
  obtain ⟨vM, vC, vO, vS⟩ := p3
  have vl := vwS_len r2.st
  refine ⟨mgThere C 22 3 (by decide), mgNot C, ?_⟩
  replace C := pVw C (vwS r2.st).1.1 (vwS r2.st).1.2.1 vq (vwS r2.st).1.2.2
  refine Ctr.ret (m' := m3) (L := La) (_, rv) rfl ⟨?_, ?_, ?_, vO, ?_⟩ C
  · exact ⟨.nil .., vM, .nil .., esNil _, esNil _, Nat.zero_le _, Nat.le_trans vl (by decide), Nat.zero_le _, Nat.zero_le _, Nat.zero_le _⟩
  · exact ⟨Nat.le_refl _, vC, Nat.le_refl _, (fun _ h => nomatch h), (fun _ h => nomatch h)⟩
  · simp only [Mg.er, p1.2, p2.2, vS] <;> rfl
  · simp only [p1.2, p2.2, vS] <;> rfl
theorem c_rdmsg_2 (b bm : Nat) (r : Rd) : RdM b bm r 2 := by
  refine Ctr.mk fun w F m C hr => x_rdmsg _ _ w _ ⟨2, C.swap.blkCell (j := 0) rfl, ?_⟩
  repeat (first | rw [if_pos (by decide)] | rw [if_neg (by decide)])
  intro wa La ha ga
  replace C := C.hidL ha ga
  refine (c_GetID b r).call (As := [_]) C hr fun r1 m1 w1 hk hm1 p1 C => ⟨_, _, _, _, _, _, _, _, _, _, rfl, hk, rfl, ?_⟩
  refine ⟨mgThere C 9 10 (by decide), mgNot C, ?_⟩
  replace C := pId C (idS r.st).1
  refine (c_RB b r1).call (As := [_]) C p1.1 fun r2 m2 w2 hk hm2 p2 C => ⟨_, rfl, hk, rfl, ?_⟩
  refine ⟨mgThere C 2 1 (by decide), mgNot C, ?_⟩
  replace C := pCo C ((((bS r1.st).1.toNat : Nat) : Int))
  refine Ctr.ret (m' := m2) (L := La) (_, r2) rfl ⟨?_, ?_, ?_, p2.1, ?_⟩ C
  · exact ⟨.nil .., .nil .., .nil .., esNil _, esNil _, Nat.zero_le _, Nat.zero_le _, Nat.zero_le _, Nat.zero_le _, Nat.zero_le _⟩
  · exact ⟨Nat.le_refl _, Nat.le_refl _, Nat.le_refl _, (fun _ h => nomatch h), (fun _ h => nomatch h)⟩
  · simp only [Mg.er, p1.2, p2.2] <;> rfl
  · simp only [p1.2, p2.2] <;> rfl
theorem c_rdmsg_3 (b bm : Nat) (r : Rd) : RdM b bm r 3 := by
  refine Ctr.mk fun w F m C hr => x_rdmsg _ _ w _ ⟨3, C.swap.blkCell (j := 0) rfl, ?_⟩
  repeat (first | rw [if_pos (by decide)] | rw [if_neg (by decide)])
  refine ⟨[], facts_nil _ _, fun wa La ha ga => ?_⟩
  replace C := C.hidL ha ga
  refine (c_RB b r).call (As := [_]) C hr fun r1 m1 w1 hk hm1 p1 C => ⟨_, rfl, hk, facts_nil _ _, ?_⟩
  refine (c_rdword b r1).call (As := [_]) C p1.1 fun r2 m2 w2 hk hm2 p2 C => ⟨_, rfl, hk, facts_nil _ _, ?_⟩
  refine (c_rdword b r2).call (As := [_]) C p2.1 fun r3 m3 w3 hk hm3 p3 C => ⟨_, rfl, hk, facts_nil _ _, rfl, ?_⟩
  refine ⟨mgThere C 1 1 (by decide), mgNot C, facts_nil _ _, rfl, ?_⟩
  replace C := pGr C ((((bS r.st).1.toNat : Nat) : Int))
  refine ⟨mgThere C 3 1 (by decide), mgNot C, facts_nil _ _, rfl, ?_⟩
  replace C := pNn C ((((uS 4294967295 r1.st).1 : Nat) : Int))
  refine ⟨mgThere C 4 1 (by decide), mgNot C, ?_⟩
  replace C := pFr C ((((uS 4294967295 r2.st).1 : Nat) : Int))
  refine ⟨3, C.swap.blkCell (j := 0) rfl, mgNot C, ?_⟩
  repeat (first | rw [if_pos (by decide)] | rw [if_neg (by decide)])
  refine (c_rdword b r3).call (As := [_]) C p3.1 fun r4 m4 w4 hk hm4 p4 C => ⟨_, rfl, hk, rfl, ?_⟩
  refine ⟨mgThere C 5 1 (by decide), mgNot C, ?_⟩
  replace C := pCm C ((((uS 4294967295 r3.st).1 : Nat) : Int))
  refine (c_eGetAll b r4).call (As := [_]) C p4.1 fun p m5 w5 hk hm5 p5 C => ⟨_, _, _, rfl, hk, rfl, ?_⟩
  obtain ⟨eq, es, re⟩ := p
  obtain ⟨eM, eE, eO, eS⟩ := p5
  refine ⟨mgThere C 29 1 (by decide), mgNot C, ?_⟩
  replace C := pEs C eq es
  have el := es_len (m := m) (q := eq) eE
  refine Ctr.ret (m' := m5) (L := La) (_, re) rfl ⟨?_, ?_, ?_, eO, ?_⟩ C
  · exact ⟨.nil .., .nil .., .nil .., eM.1, esNil _, Nat.zero_le _, Nat.zero_le _, Nat.zero_le _, el, Nat.zero_le _⟩
  · exact ⟨Nat.le_refl _, Nat.le_refl _, Nat.le_refl _, eM.2, (fun _ h => nomatch h)⟩
  · simp only [Mg.er, p1.2, p2.2, p3.2, p4.2, eS, eE] <;> rfl
  · simp only [p1.2, p2.2, p3.2, p4.2, eS, eE] <;> rfl
theorem c_rdmsg_4 (b bm : Nat) (r : Rd) : RdM b bm r 4 := by
  refine Ctr.mk fun w F m C hr => x_rdmsg _ _ w _ ⟨4, C.swap.blkCell (j := 0) rfl, ?_⟩
  repeat (first | rw [if_pos (by decide)] | rw [if_neg (by decide)])
  refine ⟨[], facts_nil _ _, fun wa La ha ga => ?_⟩
  replace C := C.hidL ha ga
  refine (c_RB b r).call (As := [_]) C hr fun r1 m1 w1 hk hm1 p1 C => ⟨_, rfl, hk, facts_nil _ _, ?_⟩
  refine (c_rdword b r1).call (As := [_]) C p1.1 fun r2 m2 w2 hk hm2 p2 C => ⟨_, rfl, hk, facts_nil _ _, ?_⟩
  refine (c_rdword b r2).call (As := [_]) C p2.1 fun r3 m3 w3 hk hm3 p3 C => ⟨_, rfl, hk, facts_nil _ _, rfl, ?_⟩
  refine ⟨mgThere C 1 1 (by decide), mgNot C, facts_nil _ _, rfl, ?_⟩
  replace C := pGr C ((((bS r.st).1.toNat : Nat) : Int))
  refine ⟨mgThere C 3 1 (by decide), mgNot C, facts_nil _ _, rfl, ?_⟩
  replace C := pNn C ((((uS 4294967295 r1.st).1 : Nat) : Int))
  refine ⟨mgThere C 4 1 (by decide), mgNot C, ?_⟩
  replace C := pFr C ((((uS 4294967295 r2.st).1 : Nat) : Int))
  refine ⟨4, C.swap.blkCell (j := 0) rfl, mgNot C, ?_⟩
  repeat (first | rw [if_pos (by decide)] | rw [if_neg (by decide)])
  refine Ctr.ret (m' := m3) (L := La) (_, r3) rfl ⟨?_, ?_, ?_, p3.1, ?_⟩ C
  · exact ⟨.nil .., .nil .., .nil .., esNil _, esNil _, Nat.zero_le _, Nat.zero_le _, Nat.zero_le _, Nat.zero_le _, Nat.zero_le _⟩
  · exact ⟨Nat.le_refl _, Nat.le_refl _, Nat.le_refl _, (fun _ h => nomatch h), (fun _ h => nomatch h)⟩
  · simp only [Mg.er, p1.2, p2.2, p3.2] <;> rfl
  · simp only [p1.2, p2.2, p3.2] <;> rfl
theorem c_rdmsg_5 (b bm : Nat) (r : Rd) : RdM b bm r 5 := by
  refine Ctr.mk fun w F m C hr => x_rdmsg _ _ w _ ⟨5, C.swap.blkCell (j := 0) rfl, ?_⟩
  repeat (first | rw [if_pos (by decide)] | rw [if_neg (by decide)])
  intro wa La ha ga
  replace C := C.hidL ha ga
  refine (c_rdround b bm r _).call (As := []) C hr fun r1 m1 w1 hk hm1 p1 C => ⟨rfl, hk, ?_⟩
  refine Ctr.ret (m' := m1) (L := La) (_, r1) rfl ⟨?_, ?_, ?_, p1.1, ?_⟩ C
  · exact ⟨.nil .., .nil .., .nil .., esNil _, esNil _, Nat.zero_le _, Nat.zero_le _, Nat.zero_le _, Nat.zero_le _, Nat.zero_le _⟩
  · exact ⟨Nat.le_refl _, Nat.le_refl _, Nat.le_refl _, (fun _ h => nomatch h), (fun _ h => nomatch h)⟩
  · simp only [Mg.er, p1.2] <;> rfl
  · simp only [p1.2] <;> rfl
theorem c_rdmsg_6 (b bm : Nat) (r : Rd) : RdM b bm r 6 := by
  refine Ctr.mk fun w F m C hr => x_rdmsg _ _ w _ ⟨6, C.swap.blkCell (j := 0) rfl, ?_⟩
  repeat (first | rw [if_pos (by decide)] | rw [if_neg (by decide)])
  intro wa La ha ga
  replace C := C.hidL ha ga
  refine (c_rdround b bm r _).call (As := []) C hr fun r1 m1 w1 hk hm1 p1 C => ⟨rfl, hk, ?_⟩
  refine Ctr.ret (m' := m1) (L := La) (_, r1) rfl ⟨?_, ?_, ?_, p1.1, ?_⟩ C
  · exact ⟨.nil .., .nil .., .nil .., esNil _, esNil _, Nat.zero_le _, Nat.zero_le _, Nat.zero_le _, Nat.zero_le _, Nat.zero_le _⟩
  · exact ⟨Nat.le_refl _, Nat.le_refl _, Nat.le_refl _, (fun _ h => nomatch h), (fun _ h => nomatch h)⟩
  · simp only [Mg.er, p1.2] <;> rfl
  · simp only [p1.2] <;> rfl
theorem c_rdmsg_7 (b bm : Nat) (r : Rd) : RdM b bm r 7 := by
  refine Ctr.mk fun w F m C hr => x_rdmsg _ _ w _ ⟨7, C.swap.blkCell (j := 0) rfl, ?_⟩
  repeat (first | rw [if_pos (by decide)] | rw [if_neg (by decide)])
  intro wa La ha ga
  replace C := C.hidL ha ga
  refine (c_rdround b bm r _).call (As := []) C hr fun r1 m1 w1 hk hm1 p1 C => ⟨rfl, hk, ?_⟩
  refine Ctr.ret (m' := m1) (L := La) (_, r1) rfl ⟨?_, ?_, ?_, p1.1, ?_⟩ C
  · exact ⟨.nil .., .nil .., .nil .., esNil _, esNil _, Nat.zero_le _, Nat.zero_le _, Nat.zero_le _, Nat.zero_le _, Nat.zero_le _⟩
  · exact ⟨Nat.le_refl _, Nat.le_refl _, Nat.le_refl _, (fun _ h => nomatch h), (fun _ h => nomatch h)⟩
  · simp only [Mg.er, p1.2] <;> rfl
  · simp only [p1.2] <;> rfl
theorem c_rdmsg_9 (b bm : Nat) (r : Rd) : RdM b bm r 9 := by
  refine Ctr.mk fun w F m C hr => x_rdmsg _ _ w _ ⟨9, C.swap.blkCell (j := 0) rfl, ?_⟩
  repeat (first | rw [if_pos (by decide)] | rw [if_neg (by decide)])
  intro wa La ha ga
  replace C := C.hidL ha ga
  refine (c_rdround b bm r _).call (As := []) C hr fun r1 m1 w1 hk hm1 p1 C => ⟨rfl, hk, ?_⟩
  refine (c_rdvalue b bm r1 _).call (As := []) C p1.1 fun p m2 w2 hk hm2 p2 C => ⟨rfl, hk, ?_⟩
  obtain ⟨mq, tq, ts, rt⟩ := p
  obtain ⟨mM, mC, tM, tE, tO, tS⟩ := p2
  have ml := prsS_len r1.st
  have tl := es_len (m := m) (q := tq) tE
  refine Ctr.ret (m' := m2) (L := La) (_, rt) rfl ⟨?_, ?_, ?_, tO, ?_⟩ C
  · exact ⟨.nil .., .nil .., mM, esNil _, tM.1, Nat.zero_le _, Nat.zero_le _, Nat.le_trans ml (by decide), Nat.zero_le _, tl⟩
  · exact ⟨Nat.le_refl _, Nat.le_refl _, mC, (fun _ h => nomatch h), tM.2⟩
  · simp only [Mg.er, p1.2, tS, tE] <;> rfl
  · simp only [p1.2, tS, tE] <;> rfl
theorem c_rdmsg_10 (b bm : Nat) (r : Rd) : RdM b bm r 10 := by
  refine Ctr.mk fun w F m C hr => x_rdmsg _ _ w _ ⟨10, C.swap.blkCell (j := 0) rfl, ?_⟩
  repeat (first | rw [if_pos (by decide)] | rw [if_neg (by decide)])
  intro wa La ha ga
  replace C := C.hidL ha ga
  refine (c_vGet b r).call (As := [_]) C hr fun p m1 w1 hk hm1 p1 C => ⟨_, _, _, _, _, rfl, hk, rfl, ?_⟩
  obtain ⟨vq, rv⟩ := p
  obtain ⟨vM, vC, vO, vS⟩ := p1
  have vl := vwS_len r.st
  refine ⟨mgThere C 22 3 (by decide), mgNot C, ?_⟩
  replace C := pVw C (vwS r.st).1.1 (vwS r.st).1.2.1 vq (vwS r.st).1.2.2
  refine (c_eGetAll b rv).call (As := [_]) C vO fun p m2 w2 hk hm2 p2 C => ⟨_, _, _, rfl, hk, rfl, ?_⟩
  replace vM := vM.mono hm2
  obtain ⟨eq, es, re⟩ := p
  obtain ⟨eM, eE, eO, eS⟩ := p2
  refine ⟨mgThere C 29 1 (by decide), mgNot C, ?_⟩
  replace C := pEs C eq es
  have el := es_len (m := m) (q := eq) eE
  refine Ctr.ret (m' := m2) (L := La) (_, re) rfl ⟨?_, ?_, ?_, eO, ?_⟩ C
  · exact ⟨.nil .., vM, .nil .., eM.1, esNil _, Nat.zero_le _, Nat.le_trans vl (by decide), Nat.zero_le _, el, Nat.zero_le _⟩
  · exact ⟨Nat.le_refl _, vC, Nat.le_refl _, eM.2, (fun _ h => nomatch h)⟩
  · simp only [Mg.er, vS, eS, eE] <;> rfl
  · simp only [vS, eS, eE] <;> rfl
theorem c_rdmsg_11 (b bm : Nat) (r : Rd) : RdM b bm r 11 := by
  refine Ctr.mk fun w F m C hr => x_rdmsg _ _ w _ ⟨11, C.swap.blkCell (j := 0) rfl, ?_⟩
  repeat (first | rw [if_pos (by decide)] | rw [if_neg (by decide)])
  intro wa La ha ga
  replace C := C.hidL ha ga
  refine (c_RB b r).call (As := [_]) C hr fun r1 m1 w1 hk hm1 p1 C => ⟨_, rfl, hk, rfl, ?_⟩
  refine ⟨mgThere C 1 1 (by decide), mgNot C, ?_⟩
  replace C := pGr C ((((bS r.st).1.toNat : Nat) : Int))
  refine (c_GetProc b r1).call (As := [_]) C p1.1 fun r2 m2 w2 hk hm2 p2 C => ⟨_, _, rfl, hk, rfl, ?_⟩
  refine ⟨mgThere C 25 2 (by decide), mgNot C, ?_⟩
  replace C := pPr C (((procS r1.st).1.1.toNat : Nat) : Int) (((procS r1.st).1.2 : Nat) : Int)
  refine Ctr.ret (m' := m2) (L := La) (_, r2) rfl ⟨?_, ?_, ?_, p2.1, ?_⟩ C
  · exact ⟨.nil .., .nil .., .nil .., esNil _, esNil _, Nat.zero_le _, Nat.zero_le _, Nat.zero_le _, Nat.zero_le _, Nat.zero_le _⟩
  · exact ⟨Nat.le_refl _, Nat.le_refl _, Nat.le_refl _, (fun _ h => nomatch h), (fun _ h => nomatch h)⟩
  · simp only [Mg.er, p1.2, p2.2] <;> rfl
  · simp only [p1.2, p2.2] <;> rfl
theorem c_rdmsg_12 (b bm : Nat) (r : Rd) : RdM b bm r 12 := by
  refine Ctr.mk fun w F m C hr => x_rdmsg _ _ w _ ⟨12, C.swap.blkCell (j := 0) rfl, ?_⟩
  repeat (first | rw [if_pos (by decide)] | rw [if_neg (by decide)])
  intro wa La ha ga
  replace C := C.hidL ha ga
  refine (c_RB b r).call (As := [_]) C hr fun r1 m1 w1 hk hm1 p1 C => ⟨_, rfl, hk, rfl, ?_⟩
  refine ⟨mgThere C 1 1 (by decide), mgNot C, ?_⟩
  replace C := pGr C ((((bS r.st).1.toNat : Nat) : Int))
  refine (c_GetProc b r1).call (As := [_]) C p1.1 fun r2 m2 w2 hk hm2 p2 C => ⟨_, _, rfl, hk, rfl, ?_⟩
  refine ⟨mgThere C 25 2 (by decide), mgNot C, ?_⟩
  replace C := pPr C (((procS r1.st).1.1.toNat : Nat) : Int) (((procS r1.st).1.2 : Nat) : Int)
  refine Ctr.ret (m' := m2) (L := La) (_, r2) rfl ⟨?_, ?_, ?_, p2.1, ?_⟩ C
  · exact ⟨.nil .., .nil .., .nil .., esNil _, esNil _, Nat.zero_le _, Nat.zero_le _, Nat.zero_le _, Nat.zero_le _, Nat.zero_le _⟩
  · exact ⟨Nat.le_refl _, Nat.le_refl _, Nat.le_refl _, (fun _ h => nomatch h), (fun _ h => nomatch h)⟩
  · simp only [Mg.er, p1.2, p2.2] <;> rfl
  · simp only [p1.2, p2.2] <;> rfl
theorem c_rdmsg_13 (b bm : Nat) (r : Rd) : RdM b bm r 13 := by
  refine Ctr.mk fun w F m C hr => x_rdmsg _ _ w _ ⟨13, C.swap.blkCell (j := 0) rfl, ?_⟩
  repeat (first | rw [if_pos (by decide)] | rw [if_neg (by decide)])
  intro wa La ha ga
  replace C := C.hidL ha ga
  refine (c_RB b r).call (As := [_]) C hr fun r1 m1 w1 hk hm1 p1 C => ⟨_, rfl, hk, rfl, ?_⟩
  refine ⟨mgThere C 1 1 (by decide), mgNot C, ?_⟩
  replace C := pGr C ((((bS r.st).1.toNat : Nat) : Int))
  refine (c_GetProc b r1).call (As := [_]) C p1.1 fun r2 m2 w2 hk hm2 p2 C => ⟨_, _, rfl, hk, rfl, ?_⟩
  refine ⟨mgThere C 25 2 (by decide), mgNot C, ?_⟩
  replace C := pPr C (((procS r1.st).1.1.toNat : Nat) : Int) (((procS r1.st).1.2 : Nat) : Int)
  refine Ctr.ret (m' := m2) (L := La) (_, r2) rfl ⟨?_, ?_, ?_, p2.1, ?_⟩ C
  · exact ⟨.nil .., .nil .., .nil .., esNil _, esNil _, Nat.zero_le _, Nat.zero_le _, Nat.zero_le _, Nat.zero_le _, Nat.zero_le _⟩
  · exact ⟨Nat.le_refl _, Nat.le_refl _, Nat.le_refl _, (fun _ h => nomatch h), (fun _ h => nomatch h)⟩
  · simp only [Mg.er, p1.2, p2.2] <;> rfl
  · simp only [p1.2, p2.2] <;> rfl
theorem c_rdmsg_8t (b bm : Nat) (r : Rd) (hH : (flagS (evsS (rndS r.st)).2).1 = true) : RdM b bm r 8 := by
  refine Ctr.mk fun w F m C hr => x_rdmsg _ _ w _ ⟨8, C.swap.blkCell (j := 0) rfl, ?_⟩
  repeat (first | rw [if_pos (by decide)] | rw [if_neg (by decide)])
  intro wa La ha ga
  replace C := C.hidL ha ga
  refine (c_rdround b bm r _).call (As := []) C hr fun r1 m1 w1 hk hm1 p1 C => ⟨rfl, hk, ?_⟩
  refine (c_eGetAll b r1).call (As := [_]) C p1.1 fun p m2 w2 hk hm2 p2 C => ⟨_, _, _, rfl, hk, rfl, ?_⟩
  obtain ⟨eq, es, re⟩ := p
  obtain ⟨eM, eE, eO, eS⟩ := p2
  refine ⟨mgThere C 29 1 (by decide), mgNot C, ?_⟩
  replace C := pEs C eq es
  have el := es_len (m := m) (q := eq) eE
  refine (c_rdflag b re).call (As := [_]) C eO fun r3 m3 w3 hk hm3 p3 C => ⟨_, rfl, hk, rfl, ?_⟩
  replace eM := eM.mono hm3
  refine ⟨mgThere C 27 1 (by decide), mgNot C, ?_⟩
  replace C := pHas C ((flagS re.st).1)
  have hh0 : (flagS re.st).1 = true := by rw [eS, p1.2]; exact hH
  refine ⟨_, C.swap.blkCell (j := 27) rfl, mgNot C, ?_⟩
  rw [if_pos hh0]
  refine (c_rdwide b r3).call (As := [_]) C p3.1 fun r4 m4 w4 hk hm4 p4 C => ⟨_, rfl, hk, rfl, ?_⟩
  replace eM := eM.mono hm4
  refine ⟨mgThere C 8 1 (by decide), mgNot C, ?_⟩
  replace C := pAc C ((((uS M64n r3.st).1 : Nat) : Int))
  refine (c_rdvalue b bm r4 _).call (As := []) C p4.1 fun p m5 w5 hk hm5 p5 C => ⟨rfl, hk, ?_⟩
  replace eM := eM.mono hm5
  obtain ⟨mq, tq, ts, rt⟩ := p
  obtain ⟨mM, mC, tM, tE, tO, tS⟩ := p5
  have ml := prsS_len r4.st
  have tl := es_len (m := m) (q := tq) tE
  have hx : (foldG (fldS 8) (Mv.z 8) r.st).1.has = (flagS (evsS (rndS r.st)).2).1 := rfl
  have hG : msgG 8 r.st = foldG [120, 109] (foldG (fldS 8) (Mv.z 8) r.st).1 (foldG (fldS 8) (Mv.z 8) r.st).2 := if_pos ⟨rfl, hx.trans hH⟩
  refine Ctr.ret (m' := m5) (L := La) (_, rt) rfl ⟨?_, ?_, ?_, tO, ?_⟩ C
  · exact ⟨.nil .., .nil .., mM, eM.1, tM.1, Nat.zero_le _, Nat.zero_le _, Nat.le_trans ml (by decide), el, tl⟩
  · exact ⟨Nat.le_refl _, Nat.le_refl _, mC, eM.2, tM.2⟩
  · rw [hG]; simp only [Mg.er, p1.2, eS, eE, p3.2, p4.2, tS, tE] <;> rfl
  · rw [hG]; simp only [p1.2, eS, eE, p3.2, p4.2, tS, tE] <;> rfl
theorem c_rdmsg_8f (b bm : Nat) (r : Rd) (hH : (flagS (evsS (rndS r.st)).2).1 = false) : RdM b bm r 8 := by
  refine Ctr.mk fun w F m C hr => x_rdmsg _ _ w _ ⟨8, C.swap.blkCell (j := 0) rfl, ?_⟩
  repeat (first | rw [if_pos (by decide)] | rw [if_neg (by decide)])
  intro wa La ha ga
  replace C := C.hidL ha ga
  refine (c_rdround b bm r _).call (As := []) C hr fun r1 m1 w1 hk hm1 p1 C => ⟨rfl, hk, ?_⟩
  refine (c_eGetAll b r1).call (As := [_]) C p1.1 fun p m2 w2 hk hm2 p2 C => ⟨_, _, _, rfl, hk, rfl, ?_⟩
  obtain ⟨eq, es, re⟩ := p
  obtain ⟨eM, eE, eO, eS⟩ := p2
  refine ⟨mgThere C 29 1 (by decide), mgNot C, ?_⟩
  replace C := pEs C eq es
  have el := es_len (m := m) (q := eq) eE
  refine (c_rdflag b re).call (As := [_]) C eO fun r3 m3 w3 hk hm3 p3 C => ⟨_, rfl, hk, rfl, ?_⟩
  replace eM := eM.mono hm3
  refine ⟨mgThere C 27 1 (by decide), mgNot C, ?_⟩
  replace C := pHas C ((flagS re.st).1)
  have hh0 : (flagS re.st).1 = false := by rw [eS, p1.2]; exact hH
  refine ⟨_, C.swap.blkCell (j := 27) rfl, mgNot C, ?_⟩
  rw [if_neg (show ¬ ((flagS re.st).1 = true) by rw [hh0]; decide)]
  have hx : (foldG (fldS 8) (Mv.z 8) r.st).1.has = (flagS (evsS (rndS r.st)).2).1 := rfl
  have hG : msgG 8 r.st = foldG (fldS 8) (Mv.z 8) r.st := if_neg (fun h => by rw [hx, hH] at h; exact absurd h.2 (by decide))
  refine Ctr.ret (m' := m3) (L := La) (_, r3) rfl ⟨?_, ?_, ?_, p3.1, ?_⟩ C
  · exact ⟨.nil .., .nil .., .nil .., eM.1, esNil _, Nat.zero_le _, Nat.zero_le _, Nat.zero_le _, el, Nat.zero_le _⟩
  · exact ⟨Nat.le_refl _, Nat.le_refl _, Nat.le_refl _, eM.2, (fun _ h => nomatch h)⟩
  · rw [hG]; simp only [Mg.er, p1.2, eS, eE, p3.2] <;> rfl
  · rw [hG]; simp only [p1.2, eS, eE, p3.2] <;> rfl
theorem c_rdmsg_8 (b bm : Nat) (r : Rd) : RdM b bm r 8 := by
  cases h : (flagS (evsS (rndS r.st)).2).1
  · exact c_rdmsg_8f b bm r h
  · exact c_rdmsg_8t b bm r h
theorem mz_M (m : Mem) (k : Int) : MgM m (Mg.z k) ∧ MgC (Mg.z k) := ⟨⟨.nil .., .nil .., .nil .., esNil _, esNil _, Nat.zero_le _, Nat.zero_le _, Nat.zero_le _, Nat.zero_le _, Nat.zero_le _⟩, ⟨Nat.le_refl _, Nat.le_refl _, Nat.le_refl _, (fun _ h => nomatch h), (fun _ h => nomatch h)⟩⟩
theorem c_rdmsg_x (b bm : Nat) (r : Rd) (k : Int) (hk : 13 < k) : RdM b bm r k := by
  refine Ctr.mk fun w F m C hr => x_rdmsg _ _ w _ ⟨k, C.swap.blkCell (j := 0) rfl, ?_⟩
  repeat (rw [if_neg (by simp only [beq_iff_eq]; omega)])
  intro wa ha
  have hM : msgG k r.st = ((Mg.z k).er, r.st) := by
    rw [msgG, fldSo (by omega), foldG, msgH, if_neg (by omega)]; rfl
  refine Ctr.ret (m' := m) (L := []) (Mg.z k, r) (by rw [decide_eq_false (by omega)]) ⟨(mz_M m k).1, (mz_M m k).2, by rw [hM], hr, by rw [hM]⟩ (C.hid0 ha)
theorem c_rdmsg (b bm : Nat) (r : Rd) (k : Int) (h0 : 0 ≤ k) : RdM b bm r k := by
  have hk : k = 0 ∨ k = 1 ∨ k = 2 ∨ k = 3 ∨ k = 4 ∨ k = 5 ∨ k = 6 ∨ k = 7 ∨ k = 8 ∨ k = 9 ∨ k = 10 ∨ k = 11 ∨ k = 12 ∨ k = 13 ∨ 13 < k := by omega
  rcases hk with rfl | rfl | rfl | rfl | rfl | rfl | rfl | rfl | rfl | rfl | rfl | rfl | rfl | rfl | h
  · exact c_rdmsg_0 b bm r
  · exact c_rdmsg_1 b bm r
  · exact c_rdmsg_2 b bm r
  · exact c_rdmsg_3 b bm r
  · exact c_rdmsg_4 b bm r
  · exact c_rdmsg_5 b bm r
  · exact c_rdmsg_6 b bm r
  · exact c_rdmsg_7 b bm r
  · exact c_rdmsg_8 b bm r
  · exact c_rdmsg_9 b bm r
  · exact c_rdmsg_10 b bm r
  · exact c_rdmsg_11 b bm r
  · exact c_rdmsg_12 b bm r
  · exact c_rdmsg_13 b bm r
  · exact c_rdmsg_x b bm r k h
end Go.Proofs
namespace Go.Proofs
open Go X RowKit
theorem nat_in {n k : Nat} (h : n < k) : 0 ≤ ((n : Nat) : Int) ∧ ((n : Nat) : Int) < (k : Int) := by omega
theorem b_in (s : St) : 0 ≤ (((bS s).1.toNat : Nat) : Int) ∧ (((bS s).1.toNat : Nat) : Int) < 256 := nat_in (bS_lt s)
theorem u32_in (s : St) : 0 ≤ (((uS 4294967295 s).1 : Nat) : Int) ∧ (((uS 4294967295 s).1 : Nat) : Int) < 4294967296 := nat_in (k := 4294967296) (by have := uS_lt 4294967295 s (by decide); omega)
theorem u16_in (s : St) : 0 ≤ (((uS 65535 s).1 : Nat) : Int) ∧ (((uS 65535 s).1 : Nat) : Int) < 65536 := nat_in (k := 65536) (by have := uS_lt 65535 s (by decide); omega)
theorem u64_in (s : St) : 0 ≤ (((uS M64n s).1 : Nat) : Int) ∧ (((uS M64n s).1 : Nat) : Int) < 18446744073709551616 := nat_in (k := 18446744073709551616) (by have : (uS M64n s).1 ≤ 18446744073709551615 := uS_lt 18446744073709551615 s (by decide); omega)
theorem textS_len (most : Nat) (hm : most < 18446744073709551616) (s : St) : (textS most s).1.length ≤ most := by
  have h := uS_lt most s hm
  simp only [textS]
  split
  · exact Nat.zero_le _
  · split
    · exact Nat.zero_le _
    · simp only [List.length_take]; omega
theorem tx_in (most : Nat) (hm : most ≤ 281474976710656) (s : St) : (toBA (textS most s).1).size ≤ 281474976710656 := by
  have h := textS_len most (by omega) s
  rw [toBA_size]; omega
theorem zag_in {v : Nat} (h : v < 18446744073709551616) : -9223372036854775808 ≤ zagN v ∧ zagN v ≤ 9223372036854775807 := by
  unfold zagN; split <;> omega
theorem put_in {x : I} (hx : x.In) (i : Nat) {g j : Int} (hg : 0 ≤ g ∧ g < 256) (hj : 0 ≤ j ∧ j < 256) : (x.put i g j).In := by
  unfold I.put
  split
  · exact ⟨hx.n, hx.l, hx.s, hx.d, hg, hj, hx.g1, hx.i1, hx.g2, hx.i2⟩
  · split
    · exact ⟨hx.n, hx.l, hx.s, hx.d, hx.g0, hx.i0, hg, hj, hx.g2, hx.i2⟩
    · exact ⟨hx.n, hx.l, hx.s, hx.d, hx.g0, hx.i0, hx.g1, hx.i1, hg, hj⟩
theorem stS_in : ∀ (k i : Nat) (x : I) (s : St), x.In → (stS k i x s).1.In
  | 0, _, x, s, h => h
  | k + 1, i, x, s, h => stS_in k (i + 1) _ _ (put_in h i (b_in s) (b_in (bS s).2))
theorem idH_in (s : St) : (idH s).1.In := by
  have h0 : 0 ≤ (0 : Int) ∧ (0 : Int) < 256 := by decide
  exact ⟨b_in s, u16_in (bS s).2, u32_in _, b_in _, h0, h0, h0, h0, h0, h0⟩
theorem idS_in (s : St) : (idS s).1.In := by
  unfold idS; split
  · exact idH_in s
  · exact stS_in _ _ _ _ (idH_in s)
theorem ptS_in (s : St) : PtIn (ptS s).1 := ⟨b_in s, b_in _, zag_in (by have : (uS M64n (textS 255 (textS 255 (bS (bS s).2).2).2).2).1 ≤ 18446744073709551615 := uS_lt 18446744073709551615 _ (by decide); omega), tx_in 255 (by decide) _, tx_in 255 (by decide) _⟩
theorem prS_in (s : St) : PrW (prS s).1 := ⟨b_in s, u16_in (bS s).2⟩
theorem someS_all {α : Type} {P : α → Prop} {g : St → α × St} (h : ∀ s, P (g s).1) : ∀ (n : Nat) (s : St), ∀ x ∈ (someS g n s).1, P x
  | 0, s, x, hx => by cases hx
  | n + 1, s, x, hx => by
    rw [someS] at hx
    split at hx
    · cases hx
    · rcases List.mem_cons.1 hx with rfl | hx
      · exact h s
      · exact someS_all h n _ x hx
theorem okE_all {α : Type} {P : α → Prop} {p : List α × St} (h : ∀ x ∈ p.1, P x) : ∀ x ∈ (okE p).1, P x := by
  unfold okE; split
  · intro x hx; cases hx
  · exact h
theorem z8 : 0 ≤ (0 : Int) ∧ (0 : Int) < 256 := by decide
theorem z16 : 0 ≤ (0 : Int) ∧ (0 : Int) < 65536 := by decide
theorem z32 : 0 ≤ (0 : Int) ∧ (0 : Int) < 4294967296 := by decide
theorem z64 : 0 ≤ (0 : Int) ∧ (0 : Int) < 18446744073709551616 := by decide
theorem zeroI_in : I.zero.In := ⟨z8, z16, z32, z8, z8, z8, z8, z8, z8, z8⟩
theorem zeroE_in (k : Int) (hk : 0 ≤ k ∧ k < 256) : EvIn (Ev.zero k) := by
  exact ⟨hk, zeroI_in, z32, by simp [Ev.zero], z8, Nat.zero_le _, z8, z16⟩
theorem ptsS_in (s : St) : ∀ p ∈ (ptsS s).1, PtIn p := someS_all ptS_in _ _
theorem prsS_in (s : St) : ∀ p ∈ (prsS s).1, PrW p := okE_all (someS_all prS_in _ _)
theorem evC_in (k : Int) (hk : 0 ≤ k ∧ k < 256) (s : St) : EvIn (evC k s).1 := { zeroE_in k hk with id := idS_in _, fl := u32_in _, ps := ptsS_in _ }
theorem evS_in (s : St) : EvIn (evS s).1 := by
  unfold evS
  simp only
  split
  · exact zeroE_in 0 (by decide)
  · split
    · exact { evC_in 3 (by decide) (bS s).2 with rc := b_in _, rv := tx_in 1000 (by decide) _ }
    · split
      · exact evC_in 0 (by decide) _
      · split
        · exact { zeroE_in 1 (by decide) with id := idS_in _, rc := b_in _, rv := tx_in 1000 (by decide) _ }
        · split
          · exact { zeroE_in 2 (by decide) with vn := b_in _, vl := u16_in _ }
          · exact zeroE_in _ (b_in s)
theorem evsS_in (s : St) : ∀ e ∈ (evsS s).1, EvIn e := okE_all (someS_all evS_in _ _)
theorem vwS_in (s : St) : (0 ≤ (vwS s).1.1 ∧ (vwS s).1.1 < 256) ∧ (0 ≤ (vwS s).1.2.1 ∧ (vwS s).1.2.1 < 4294967296) ∧ ∀ p ∈ (vwS s).1.2.2, PrW p := by
  simp only [vwS]
  split
  · exact ⟨z8, z32, by simp⟩
  · exact ⟨b_in s, u32_in _, prsS_in _⟩
theorem prw_n {l : List Pr} (h : ∀ p ∈ l, PrW p) : ∀ p ∈ l, 0 ≤ p.n := fun p hp => (h p hp).n.1
theorem mz_in (k : Int) (hk : 0 ≤ k ∧ k < 256) : MvF (Mv.z k) := by
  exact ⟨⟨zeroI_in, by simp [Mv.z], by simp [Mv.z], by simp [Mv.z], by simp [Mv.z], by simp [Mv.z], z8, z32.1, z32, hk, z64, z64⟩, z8, z32, z32, z64, z8, z8, z32.2, z32.2, by simp [Mv.z], by simp [Mv.z], z8, z16⟩
theorem u32_64 (s : St) : 0 ≤ (((uS 4294967295 s).1 : Nat) : Int) ∧ (((uS 4294967295 s).1 : Nat) : Int) < 18446744073709551616 := by have := u32_in s; omega
theorem getL_in {x : Mv} (h : MvF x) (c : Int) (s : St) : MvF (getL x c s).1 := by
  have hv := vwS_in s
  unfold getL
  by_cases h103 : c = 103
  · rw [if_pos h103]; exact { h with gr := b_in s }
  rw [if_neg h103]
  by_cases h105 : c = 105
  · rw [if_pos h105]; exact { h with id := idS_in s }
  rw [if_neg h105]
  by_cases h102 : c = 102
  · rw [if_pos h102]; exact { h with fl := u32_in s }
  rw [if_neg h102]
  by_cases h112 : c = 112
  · rw [if_pos h112]; exact { h with ps := ptsS_in s }
  rw [if_neg h112]
  by_cases h114 : c = 114
  · rw [if_pos h114]; exact { h with rc := b_in s }
  rw [if_neg h114]
  by_cases h118 : c = 118
  · rw [if_pos h118]; exact { h with vg := hv.1, vn := hv.2.1.1, vn32 := hv.2.1.2, vm := prw_n hv.2.2, vmW := hv.2.2 }
  rw [if_neg h118]
  by_cases h99 : c = 99
  · rw [if_pos h99]; exact { h with co := b_in s }
  rw [if_neg h99]
  by_cases h110 : c = 110
  · rw [if_pos h110]; exact { h with nn := u32_64 s, nn32 := (u32_in s).2 }
  rw [if_neg h110]
  by_cases h97 : c = 97
  · rw [if_pos h97]; exact { h with fr := u32_in s }
  rw [if_neg h97]
  by_cases h107 : c = 107
  · rw [if_pos h107]; exact { h with cm := u32_in s }
  rw [if_neg h107]
  by_cases h101 : c = 101
  · rw [if_pos h101]; exact { h with es := evsS_in s }
  rw [if_neg h101]
  by_cases h98 : c = 98
  · rw [if_pos h98]; exact { h with ba := u64_in s }
  rw [if_neg h98]
  by_cases h104 : c = 104
  · rw [if_pos h104]; exact { h with }
  rw [if_neg h104]
  by_cases h120 : c = 120
  · rw [if_pos h120]; exact { h with ac := u64_in s }
  rw [if_neg h120]
  by_cases h109 : c = 109
  · rw [if_pos h109]; exact { h with ms := prw_n (prsS_in s), msW := prsS_in s, ts := evsS_in _ }
  rw [if_neg h109]
  by_cases h115 : c = 115
  · rw [if_pos h115]; exact { h with pn := b_in s, pl := u16_in _ }
  rw [if_neg h115]
  exact h
theorem foldG_in : ∀ (l : List UInt8) (x : Mv) (s : St), MvF x → MvF (foldG l x s).1
  | [], x, s, h => h
  | c :: l, x, s, h => foldG_in l _ _ (getL_in h _ s)
theorem msgG_in (k : Int) (hk : 0 ≤ k ∧ k < 256) (s : St) : MvF (msgG k s).1 := by
  unfold msgG msgH
  split
  · exact foldG_in _ _ _ (foldG_in _ _ _ (mz_in k hk))
  · exact foldG_in _ _ _ (mz_in k hk)
def rdE (a : Mv × St) : Mv × Int := if endS a.2 ≠ 0 then (Mv.z 0, endS a.2) else if a.1.right = true then (a.1, 0) else (Mv.z 0, 6)
def rdS (l : List UInt8) : Mv × Int :=
  if l.length > 524288 then (Mv.z 0, 5)
  else if (bS (l, 0)).2.2 ≠ 0 ∨ (bS (l, 0)).1.toNat > 13 then (Mv.z 0, 6)
  else rdE (msgG (((bS (l, 0)).1.toNat : Nat) : Int) (bS (l, 0)).2)
theorem rdE_err {a : Mv × St} (h : endS a.2 ≠ 0) : rdE a = (Mv.z 0, endS a.2) := if_pos h
theorem rdE_ok {a : Mv × St} (h : endS a.2 = 0) (h2 : a.1.right = true) : rdE a = (a.1, 0) := by rw [rdE, if_neg (fun hc => hc h), if_pos h2]
theorem rdE_no {a : Mv × St} (h : endS a.2 = 0) (h2 : ¬ a.1.right = true) : rdE a = (Mv.z 0, 6) := by rw [rdE, if_neg (fun hc => hc h), if_neg h2]
theorem c_Read7 (q : Sl) (l : List UInt8) (hl : l.length ≤ 100000000) : Ctr Tryz.prog 10 #[slV q l.length] (fun m => bsM m q l) [] (fun p : Mg => .tuple #[.agg p.row.toArray, .int .i64 (rdS l).2]) (fun p m => MgM m p ∧ MgC p ∧ p.er = (rdS l).1) (fun _ => []) := by
  refine Ctr.mk fun w F m C hs => x_Read7 _ _ _ w _ ?_
  have zero : ∀ (m2 : Mem) (w2 : World) (e : Int), rdS l = (Mv.z 0, e) → Ctx F m w w2 [] m2 [] → ∃ (p : Mg) (m' : Mem) (L : List Nat), Ending.returned (.tuple #[.agg (Mg.z 0).row.toArray, .int .i64 e]) = .returned (.tuple #[.agg p.row.toArray, .int .i64 (rdS l).2]) ∧ (MgM m' p ∧ MgC p ∧ p.er = (rdS l).1) ∧ Ctx F m w w2 L m' [] := fun m2 w2 e h C => by
    rw [h]; exact ⟨Mg.z 0, m2, [], rfl, ⟨(mz_M m2 0).1, (mz_M m2 0).2, rfl⟩, C⟩
  by_cases hbig : l.length > 524288
  · rw [if_pos (by simp only [decide_eq_true_eq]; omega)]
    exact fun w110 h110 => zero m w110 5 (by rw [rdS, if_pos hbig]) (C.hid0 h110)
  rw [if_neg (by simp only [decide_eq_true_eq]; omega)]
  intro w1 L2 h1 g1
  refine (c_Read1 q l hl).call (As := []) (C.hidL h1 g1) hs fun p m1 w4 hk hm1 p1 C => ⟨_, rfl, hk, fun w6 L7 h6 g6 => ?_⟩
  obtain ⟨b, r⟩ := p
  obtain ⟨hr, hst⟩ := p1
  simp only at hr hst C ⊢
  refine (c_RB b r).call (As := []) (C.hidL h6 g6) hr fun r1 m2 w9 hk hm2 p2 C => ⟨_, rfl, hk, trivial, ?_⟩
  have D := C.alloc (Mg.z 0).row 59
  refine ⟨D.there 0 31 (by decide), D.blkAt.2, ?_⟩
  have D1 := D.store 0 (Mg.z (((bS r.st).1.toNat : Nat) : Int)).row (Nat.le_of_ble_eq_true rfl)
  replace D1 : Ctx F m w _ L7 m2 [blk w9.heap.size (Mg.z (((bS r.st).1.toNat : Nat) : Int)).row 59, rA b r1] := D1
  replace D1 := D1.swap
  generalize hK : (bS r.st).1.toNat = K at D1 ⊢
  have hK256 : K < 256 := by rw [← hK]; exact bS_lt _
  refine (c_RErr b r1).call (As := [_]) D1 trivial fun _ m3 w12 hk hm3 _ C => ⟨_, rfl, hk, ?_⟩
  have hS : rdS l = if r1.e ≠ 0 ∨ K > 13 then (Mv.z 0, 6) else rdE (msgG (K : Int) r1.st) := by
    rw [rdS, if_neg hbig, ← hst, hK, ← p2.2]; rfl
  by_cases he : r1.e = 0
  rotate_left
  · rw [if_neg (by simp [he])]
    exact fun w14 h14 => zero m3 w14 6 (by rw [hS, if_pos (.inl he)]) (Ctx.pk (C.hid0 h14) [] [0, 1] rfl)
  rw [if_pos (by simp [he])]
  replace C : Ctx F m w w12 L7 m3 [rA b r1, blk w9.heap.size (Mg.z (K : Int)).row 59] := C
  refine (c_rdmsg b w9.heap.size r1 (K : Int) (by omega)).call (As := []) C (p2.1.mono hm3) fun p m4 w16 hk hm4 p4 C => ⟨_, rfl, hk, ?_⟩
  by_cases h13 : K ≤ 13
  rotate_left
  · rw [if_pos (by rw [decide_eq_false (by omega)]; rfl)]
    exact fun w109 h109 => zero m4 w109 6 (by rw [hS, if_pos (.inr (by omega))]) (Ctx.pk (C.hid0 h109) [] [0, 1] rfl)
  rw [if_neg (by rw [decide_eq_true (by omega)]; decide)]
  rw [if_neg (by omega)] at hS
  obtain ⟨x, r2⟩ := p
  obtain ⟨xM, xC, xE, xO, xS⟩ := p4
  simp only at xM xC xE xO xS C ⊢
  have hG : msgG (K : Int) r1.st = (x.er, r2.st) := by rw [xE, xS]
  rw [hG] at hS
  have xI : MvF x.er := by rw [xE]; exact msgG_in _ ⟨by omega, by omega⟩ _
  refine (c_REnd b r2).call (As := [_]) C trivial fun _ m5 w19 hk hm5 _ C => ⟨_, rfl, hk, ?_⟩
  by_cases hend : endS r2.st = 0
  rotate_left
  · rw [if_pos (by simp [hend])]
    exact fun w108 h108 => zero m5 w108 (endS r2.st) (by rw [hS, rdE_err hend]) (Ctx.pk (C.hid0 h108) [] [0, 1] rfl)
  rw [if_neg (by simp [hend])]
  replace C : Ctx F m w w19 L7 m5 [rA b r2, blk w9.heap.size x.row 59] := C
  refine ⟨_, _, _, _, _, _, _, _, _, _, _, _, _, _, _, _, _, _, _, _, _, _, _, _, _, _, _, _, _, _, _, _, _, _, _, _, _, _, _, _, _, C.swap.blkCells (o := 0) (vs := x.row) (fun j v e => by simpa using e), mgNot C, ?_⟩
  refine (c_mRight x xI.toMvIn).call (As := [_, _]) C (xM.mono hm5) fun _ m6 w63 hk hm6 _ C => ⟨_, rfl, hk, ?_⟩
  by_cases hrt : x.er.right = true
  rotate_left
  · rw [if_pos (by rw [Bool.eq_false_iff.2 hrt]; rfl)]
    exact fun w107 h107 => zero m6 w107 6 (by rw [hS, rdE_no hend hrt]) (Ctx.pk (C.hid0 h107) [] [0, 1] rfl)
  rw [if_neg (by rw [hrt]; decide)]
  replace C : Ctx F m w w63 L7 m6 [rA b r2, blk w9.heap.size x.row 59] := C
  refine ⟨_, _, _, _, _, _, _, _, _, _, _, _, _, _, _, _, _, _, _, _, _, _, _, _, _, _, _, _, _, _, _, _, _, _, _, _, _, _, _, _, _, C.swap.blkCells (o := 0) (vs := x.row) (fun j v e => by simpa using e), mgNot C, fun w106 h106 => ?_⟩
  rw [rdE_ok hend hrt] at hS
  rw [hS]
  exact ⟨x, m6, [], rfl, ⟨(xM.mono hm5).mono hm6, xC, rfl⟩, Ctx.pk (C.hid0 h106) [] [0, 1] rfl⟩
end Go.Proofs
namespace Go.Proofs
open Go X RowKit
theorem st_e (r : Rd1) : r.st.2 = r.e := by
  unfold Rd1.st; split
  · rfl
  · rename_i h; exact (Decidable.not_not.1 h).symm
theorem st_canon (r : Rd1) : r.st.2 ≠ 0 → r.st.1 = [] := by
  intro h; rw [st_e] at h; rw [st1 h]
abbrev RdD (f : FuncId) {α : Type} (V : α → Value) (g : St → α × St) : Prop := ∀ (b : Nat) (r : Rd1), Ctr Tryz.prog f #[.pointer (some ⟨b, 0, none⟩)] (fun m => r.ok m) [r1A b r] (fun _ : Rd1 => V (g r.st).1) (fun r' m => r'.ok m ∧ r'.st = (g r.st).2) (fun r' => [r1A b r'])
theorem c_r1Zag (v : Nat) (h : v < 18446744073709551616) : Gives Tryz.prog 173 #[.int .u64 (v : Int)] (.int .i64 (zagN v)) := fun w => x_r1Zag _ w _ (by
  have e0 : (v : Int).tmod 2 = ((v % 2 : Nat) : Int) := rfl
  have e1 : (v : Int).tdiv 2 = ((v / 2 : Nat) : Int) := rfl
  rw [e0, e1, w_u64 (n := ((v / 2 : Nat) : Int)) (by omega) (by omega), w_i64 (n := ((v / 2 : Nat) : Int)) (by omega) (by omega), w_i64 (n := 0 - ((v / 2 : Nat) : Int)) (by omega) (by omega), w_i64 (by omega) (by omega)]
  unfold zagN
  by_cases h2 : v % 2 = 1
  · rw [if_pos h2, if_pos (by rw [h2]; rfl)]
    refine ⟨?_, below_refl _ _⟩
    congr 2; omega
  · rw [if_neg h2, if_neg (by simp only [beq_iff_eq]; omega)]
    exact ⟨rfl, below_refl _ _⟩)
theorem c_r1I : RdD 161 (fun n : Int => .int .i64 n) iS := by
  refine fun b r => Ctr.mk fun w F m C hr => x_r1I _ w _ ?_
  refine (c_r1U b r 18446744073709551615 (by decide)).call (As := []) C hr fun r1 m1 w2 hk hm1 p1 C => ⟨_, rfl, hk.size, ?_⟩
  have hlt := uS_lt 18446744073709551615 r.st (by decide)
  refine C.gives (c_r1Zag (uS 18446744073709551615 r.st).1 (by omega)) fun w5 k5 C => ⟨_, rfl, k5.size, ?_⟩
  exact Ctr.ret (m' := m1) (L := []) r1 rfl p1 C
theorem c_r2GetPr : RdD 104 (fun p : Pr => .agg p.row.toArray) prS := fun b r => c_r2GetProc b r
theorem c_r3Get : RdD 142 (fun p : Pt => .agg p.row.toArray) ptS := by
  refine fun b r => Ctr.mk fun w F m C hr => x_r3Get _ w _ fun w1 L2 h1 g1 => ?_
  refine (c_r1B b r).call (As := []) (C.hidL h1 g1) hr fun r1 m1 w4 hk hm1 p1 C => ⟨_, rfl, hk, fun w6 L7 h6 g6 => ?_⟩
  refine (c_r1B b r1).call (As := []) (C.hidL h6 g6) p1.1 fun r2 m2 w9 hk hm2 p2 C => ⟨_, rfl, hk, fun w11 L12 h11 g11 => ?_⟩
  refine (c_r1RText b r2 255 (by decide)).call (As := []) (C.hidL h11 g11) p2.1 fun r3 m3 w14 hk hm3 p3 C => ⟨_, rfl, hk, fun w16 L17 h16 g16 => ?_⟩
  refine (c_r1RText b r3 255 (by decide)).call (As := []) (C.hidL h16 g16) p3.1 fun r4 m4 w19 hk hm4 p4 C => ⟨_, rfl, hk, fun w21 L22 h21 g21 => ?_⟩
  refine (c_r1I b r4).call (As := []) (C.hidL h21 g21) p4.1 fun r5 m5 w24 hk hm5 p5 C => ⟨_, rfl, hk, fun w26 h26 => ?_⟩
  exact Ctr.ret (m' := m5) (L := []) r5 (by simp only [ptS]; rw [← p1.2, ← p2.2, ← p3.2, ← p4.2]) ⟨p5.1, by simp only [ptS]; rw [← p1.2, ← p2.2, ← p3.2, ← p4.2, p5.2]⟩ (C.hid0 h26)
theorem c_r3GetRes : RdD 100 (fun x : Rs => .agg x.row.toArray) resS := by
  refine fun b r => Ctr.mk fun w F m C hr => x_r3GetRes _ w _ fun w1 L2 h1 g1 => ?_
  refine (c_r1B b r).call (As := []) (C.hidL h1 g1) hr fun r1 m1 w4 hk hm1 p1 C => ⟨_, rfl, hk, ?_⟩
  refine (c_r1RText b r1 1000 (by decide)).call (As := []) C p1.1 fun r2 m2 w7 hk hm2 p2 C => ⟨_, rfl, hk, fun w9 h9 => ?_⟩
  exact Ctr.ret (m' := m2) (L := []) r2 (by simp only [resS]; rw [← p1.2]) ⟨p2.1, by simp only [resS]; rw [← p1.2, p2.2]⟩ (C.hid0 h9)
theorem c_r3GetAll (b : Nat) (r : Rd1) : Ctr Tryz.prog 99 #[.pointer (some ⟨b, 0, none⟩)] (fun m => r.ok m) [r1A b r] (fun p : Sl × Rd1 => slV p.1 (ptsS r.st).1.length) (fun p m => MSrc m 5 (slV p.1 (ptsS r.st).1.length) (ptsS r.st).1.length ((ptsS r.st).1.flatMap Pt.row) ∧ p.2.ok m ∧ p.2.st = (ptsS r.st).2) (fun p => [r1A b p.2]) := by
  refine Ctr.mk fun w F m C hr => x_r3GetAll _ w _ ?_
  refine (c_r1B b r).call (As := []) C hr fun r0 m1 w2 hk hm1 p1 C => ⟨_, rfl, hk.size, ?_⟩
  have hD := bS_lt r.st
  have hT : someS ptS (bS r.st).1.toNat r0.st = ptsS r.st := by rw [ptsS, p1.2]
  generalize (bS r.st).1.toNat = n at hT hD ⊢
  generalize ptsS r.st = T at hT ⊢
  rw [w_i64 (n := ((n : Nat) : Int)) (by omega) (by omega)]
  refine ⟨fun q k c i w' L' => ∃ (j : Nat) (r' : Rd1) (m' : Mem) (pre : List Pt), i = j ∧ j ≤ n ∧ k = pre.length ∧ pre.length ≤ j ∧ r'.ok m' ∧ (pre ++ (someS ptS (n - j) r'.st).1, (someS ptS (n - j) r'.st).2) = T ∧ Ctx F m w w' L' m' [slA (.slice q pre.length c) pre.length (pre.flatMap Pt.row) 121 5, r1A b r'], fun _ _ _ i _ => ((n : Int) - i).toNat, ⟨0, r0, m1, [], rfl, by omega, rfl, Nat.le_refl _, p1.1, hT, C.noL.slNil⟩, ?_⟩
  clear C hT
  rintro q k c i w7 L8 _ ⟨j, r', m', pre, rfl, hj, rfl, hpl, hr', he, C⟩
  have fin : (pre, r'.st) = T → ∃ (p : Sl × Rd1) (m' : Mem) (L : List Nat), Ending.returned (Value.slice q pre.length c) = .returned (slV p.1 T.1.length) ∧ (MSrc m' 5 (slV p.1 T.1.length) T.1.length (T.1.flatMap Pt.row) ∧ p.2.ok m' ∧ p.2.st = T.2) ∧ Ctx F m w w7 L m' [r1A b p.2] := fun h2 => by
    subst h2
    obtain ⟨m3, hm3, hs, D⟩ := C.slShare
    exact ⟨((q, c), r'), m3, L8, rfl, ⟨hs, hr'.mono hm3, rfl⟩, D⟩
  by_cases hjn : j < n
  rotate_left
  · rw [if_neg (by simp only [beq_iff_eq, decide_eq_true_eq]; omega)]
    have h0 : n - j = 0 := by omega
    simp only [h0, someS, List.append_nil] at he
    exact fin he
  rw [if_pos (by simp only [beq_iff_eq, decide_eq_true_eq]; omega)]
  refine ⟨r'.e, C.swap.blkCell (j := 1) rfl, ?_⟩
  by_cases hz : r'.e = 0
  rotate_left
  · rw [if_neg (by simp [hz])]
    have hz' : r'.st.2 ≠ 0 := by rw [st_e]; exact hz
    rw [some_dead dead_pt _ hz' (st_canon r' hz'), List.append_nil] at he
    exact fin he
  rw [if_pos (by simp [hz])]
  have h1 : n - j = (n - (j + 1)) + 1 := by omega
  have e : IntKind.wrap .i64 ((j : Int) + 1) = ((j + 1 : Nat) : Int) := by rw [w_i64 (by omega) (by omega)]; omega
  have hdec : Nat.le ((((n : Int) - ((j + 1 : Nat) : Int)).toNat) + 1) (((n : Int) - (j : Int)).toNat) := Nat.le_of_eq (by omega)
  refine (c_r3Get b r').call (As := [_]) C.swap hr' fun r2 m2 w10 hk hm2 p2 C => ⟨_, _, _, _, _, rfl, hk.size, r2.e, C.blkCell (j := 1) rfl, ?_⟩
  rw [h1] at he
  simp only [someS] at he
  have e2 : r2.e = (ptS r'.st).2.2 := by rw [← p2.2, st_e]
  rw [e]
  by_cases hz2 : r2.e = 0
  rotate_left
  · rw [if_neg (by simp [hz2])]
    rw [if_pos (by rw [← e2]; exact hz2), List.append_nil, ← p2.2] at he
    have hz' : r2.st.2 ≠ 0 := by rw [st_e]; exact hz2
    refine fun w21 L22 h21 g21 => ⟨⟨j + 1, r2, m2, pre, rfl, hjn, rfl, by omega, p2.1, ?_, (C.noL.hidL h21 g21).swap⟩, hdec⟩
    rw [some_dead dead_pt _ hz' (st_canon r2 hz'), List.append_nil]; exact he
  rw [if_pos (by simp [hz2])]
  rw [if_neg (by rw [← e2]; simpa using hz2), ← p2.2] at he
  intro w23 L24 h23 g23
  replace C := C.noL.hidL h23 g23
  generalize (ptS r'.st).1 = x at he ⊢
  have D0 := (C.swap.alloc x.row 121).swap
  have hcl : Cells _ ⟨w23.heap.size, 0, none⟩ x.row := (C.swap.alloc x.row 121).blkCells (o := 0) fun k v e => by simpa using e
  obtain ⟨q2, c2, w25, ha, hkk, D2⟩ := Ctx.app2 (P := Tryz.prog) (bytes := 48) (t := 32) (t2 := 32) D0 32 (by kernel_rfl) (.some ⟨w23.heap.size, 0, none⟩ 1 1 x.row rfl hcl) (by unfold maxLen; omega) (by omega) (pt_one _)
  have e1 : (pre ++ [x]).length = pre.length + 1 := by simp
  have e3 : (pre ++ [x]).flatMap Pt.row = pre.flatMap Pt.row ++ x.row := by simp
  refine ⟨q2, _, c2, w25, ha, hkk, ⟨j + 1, r2, m2, pre ++ [x], rfl, hjn, e1.symm, by omega, p2.1, ?_, ?_⟩, hdec⟩
  · rw [← he, List.append_assoc]; rfl
  · rw [← e3, ← e1] at D2
    exact D2.pk [0, 2] [1] rfl
theorem c_r6GetProcs (b : Nat) (r : Rd1) : Ctr Tryz.prog 103 #[.pointer (some ⟨b, 0, none⟩)] (fun m => r.ok m) [r1A b r] (fun p : Sl × Rd1 => slV p.1 (prsS r.st).1.length) (fun p m => MSrc m 2 (slV p.1 (prsS r.st).1.length) (prsS r.st).1.length ((prsS r.st).1.flatMap Pr.row) ∧ p.2.ok m ∧ p.2.st = (prsS r.st).2) (fun p => [r1A b p.2]) := by
  refine Ctr.mk fun w F m C hr => x_r6GetProcs _ w _ ?_
  refine (c_r1B b r).call (As := []) C hr fun r0 m1 w2 hk hm1 p1 C => ⟨_, rfl, hk.size, ?_⟩
  have hD := bS_lt r.st
  have hT : okE (someS prS (bS r.st).1.toNat r0.st) = prsS r.st := by rw [prsS, p1.2]
  generalize (bS r.st).1.toNat = n at hT hD ⊢
  generalize prsS r.st = T at hT ⊢
  rw [w_i64 (n := ((n : Nat) : Int)) (by omega) (by omega)]
  refine ⟨fun q k c i w' L' => ∃ (j : Nat) (r' : Rd1) (m' : Mem) (pre : List Pr), i = j ∧ j ≤ n ∧ k = pre.length ∧ pre.length = j ∧ r'.ok m' ∧ okE (pre ++ (someS prS (n - j) r'.st).1, (someS prS (n - j) r'.st).2) = T ∧ Ctx F m w w' L' m' [slA (.slice q pre.length c) pre.length (pre.flatMap Pr.row) 26 2, r1A b r'], fun _ _ _ i _ => ((n : Int) - i).toNat, ⟨0, r0, m1, [], rfl, by omega, rfl, rfl, p1.1, hT, C.noL.slNil⟩, ?_⟩
  clear C hT
  rintro q k c i w7 L8 _ ⟨j, r', m', pre, rfl, hj, rfl, hpl, hr', he, C⟩
  have finE : r'.e ≠ 0 → ∃ (p : Sl × Rd1) (m' : Mem) (L : List Nat), Ending.returned (Value.slice none 0 0) = .returned (slV p.1 T.1.length) ∧ (MSrc m' 2 (slV p.1 T.1.length) T.1.length (T.1.flatMap Pr.row) ∧ p.2.ok m' ∧ p.2.st = T.2) ∧ Ctx F m w w7 L m' [r1A b p.2] := fun hz => by
    have hz' : r'.st.2 ≠ 0 := by rw [st_e]; exact hz
    rw [some_dead dead_pr _ hz' (st_canon r' hz'), okE_err hz'] at he
    subst he
    exact ⟨((none, 0), r'), m', L8, rfl, ⟨.nil .., hr', rfl⟩, C.pk [1] [0] rfl⟩
  by_cases hjn : j < n
  rotate_left
  · rw [if_neg (by simp only [beq_iff_eq, decide_eq_true_eq]; omega)]
    refine ⟨r'.e, C.swap.blkCell (j := 1) rfl, ?_⟩
    by_cases hz : r'.e = 0
    rotate_left
    · rw [if_pos (by simp [hz])]
      exact finE hz
    rw [if_neg (by simp [hz])]
    have h0 : n - j = 0 := by omega
    simp only [h0, someS, List.append_nil] at he
    rw [okE_ok (by rw [st_e]; exact hz)] at he
    subst he
    obtain ⟨m3, hm3, hs, D⟩ := C.slShare
    exact ⟨((q, c), r'), m3, L8, rfl, ⟨hs, hr'.mono hm3, rfl⟩, D⟩
  rw [if_pos (by simp only [beq_iff_eq, decide_eq_true_eq]; omega)]
  refine ⟨r'.e, C.swap.blkCell (j := 1) rfl, ?_⟩
  by_cases hz : r'.e = 0
  rotate_left
  · rw [if_neg (by simp [hz])]
    refine ⟨r'.e, C.swap.blkCell (j := 1) rfl, ?_⟩
    rw [if_pos (by simp [hz])]
    exact finE hz
  rw [if_pos (by simp [hz])]
  have h1 : n - j = (n - (j + 1)) + 1 := by omega
  have e : IntKind.wrap .i64 ((j : Int) + 1) = ((j + 1 : Nat) : Int) := by rw [w_i64 (by omega) (by omega)]; omega
  have hdec : Nat.le ((((n : Int) - ((j + 1 : Nat) : Int)).toNat) + 1) (((n : Int) - (j : Int)).toNat) := Nat.le_of_eq (by omega)
  refine (c_r2GetPr b r').call (As := [_]) C.swap hr' fun r2 m2 w16 hk hm2 p2 C => ⟨_, _, rfl, hk.size, ?_⟩
  rw [h1, okE_step dead_pr _ _ (by rw [← p2.2]; exact st_canon r2), ← p2.2] at he
  rw [e]
  generalize (prS r'.st).1 = x at he ⊢
  have D0 := (C.swap.alloc x.row 26).swap
  have hcl : Cells _ ⟨w16.heap.size, 0, none⟩ x.row := (C.swap.alloc x.row 26).blkCells (o := 0) fun k v e => by simpa using e
  obtain ⟨q2, c2, w25, ha, hkk, D2⟩ := Ctx.app2 (P := Tryz.prog) (bytes := 4) (t := 35) (t2 := 35) D0 35 (by kernel_rfl) (.some ⟨w16.heap.size, 0, none⟩ 1 1 x.row rfl hcl) (by unfold maxLen; omega) (by omega) (pr_one _)
  have e1 : (pre ++ [x]).length = pre.length + 1 := by simp
  have e3 : (pre ++ [x]).flatMap Pr.row = pre.flatMap Pr.row ++ x.row := by simp
  refine ⟨q2, _, c2, w25, ha, hkk.size, ⟨j + 1, r2, m2, pre ++ [x], rfl, hjn, e1.symm, by omega, p2.1, he, ?_⟩, hdec⟩
  rw [← e3, ← e1] at D2
  exact (D2.pk [0, 2] [1] rfl).noL
theorem c_r6Get (b : Nat) (r : Rd1) : Ctr Tryz.prog 101 #[.pointer (some ⟨b, 0, none⟩)] (fun m => r.ok m) [r1A b r] (fun p : Sl × Rd1 => .agg (Vw.row ⟨(vwS r.st).1.1, (vwS r.st).1.2.1, p.1, (vwS r.st).1.2.2⟩).toArray) (fun p m => MSrc m 2 (slV p.1 (vwS r.st).1.2.2.length) (vwS r.st).1.2.2.length ((vwS r.st).1.2.2.flatMap Pr.row) ∧ p.2.ok m ∧ p.2.st = (vwS r.st).2) (fun p => [r1A b p.2]) := by
  refine Ctr.mk fun w F m C hr => x_r6Get _ w _ fun w1 L2 h1 g1 => ?_
  refine (c_r1B b r).call (As := []) (C.hidL h1 g1) hr fun r1 m1 w4 hk hm1 p1 C => ⟨_, rfl, hk, ?_⟩
  refine (c_r1U b r1 4294967295 (by decide)).call (As := []) C p1.1 fun r2 m2 w7 hk hm2 p2 C => ⟨_, rfl, hk, ?_⟩
  refine (c_r6GetProcs b r2).call (As := []) C p2.1 fun p m3 w10 hk hm3 p3 C => ⟨_, _, _, rfl, hk, ?_⟩
  obtain ⟨q, r3⟩ := p
  obtain ⟨a1, a2, a3⟩ := p3
  simp only at a1 a2 a3 C ⊢
  have hlt := uS_lt 4294967295 r1.st (by decide)
  rw [w_u32 (by omega) (by omega)]
  have hV : vwS r.st = if (prsS r2.st).2.2 ≠ 0 then (((0 : Int), (0 : Int), ([] : List Pr)), (prsS r2.st).2) else (((((bS r.st).1.toNat : Nat) : Int), (((uS 4294967295 r1.st).1 : Nat) : Int), (prsS r2.st).1), (prsS r2.st).2) := by
    simp only [vwS]; rw [← p1.2, ← p2.2]
  have e3 : r3.e = (prsS r2.st).2.2 := by rw [← a3, st_e]
  refine ⟨r3.e, C.blkCell (j := 1) rfl, C.blkAt.2, ?_⟩
  by_cases hz : r3.e = 0
  · rw [if_neg (by simp [hz])]
    rw [if_neg (by rw [← e3]; simpa using hz)] at hV
    exact fun w15 h15 => Ctr.ret (m' := m3) (L := []) (q, r3) (by rw [hV]) ⟨by rw [hV]; exact a1, a2, by rw [hV]; exact a3⟩ (C.hid0 h15)
  · rw [if_pos (by simp [hz])]
    rw [if_pos (by rw [← e3]; exact hz)] at hV
    exact fun w16 h16 => Ctr.ret (m' := m3) (L := []) ((none, 0), r3) (by rw [hV]; rfl) ⟨by rw [hV]; exact .nil .., a2, by rw [hV]; exact a3⟩ (C.hid0 h16)
theorem c_r2GetID : RdD 97 (fun x : I => x.V) idS := by
  refine fun b r => Ctr.mk fun w F m C hr => x_r2GetID _ w _ fun w1 L2 h1 g1 => ?_
  refine (c_r2GetProc b r).call (As := []) (C.hidL h1 g1) hr fun r1 m1 w4 hk hm1 p1 C => ⟨_, _, rfl, hk, fun w7 L8 h7 g7 => ?_⟩
  refine (c_r1U b r1 4294967295 (by decide)).call (As := []) (C.hidL h7 g7) p1.1 fun r2 m2 w10 hk hm2 p2 C => ⟨_, rfl, hk, fun w12 L13 h12 g12 => ?_⟩
  refine (c_r1B b r2).call (As := []) (C.hidL h12 g12) p2.1 fun r3 m3 w15 hk hm3 p3 C => ⟨_, rfl, hk, fun w17 L18 h17 g17 => ?_⟩
  have hlt := uS_lt 4294967295 r1.st (by decide)
  have hd := bS_lt r2.st
  rw [w_u32 (by omega) (by omega)]
  have hH : idH r.st = (⟨((procS r.st).1.1.toNat : Nat), ((procS r.st).1.2 : Nat), ((uS 4294967295 r1.st).1 : Nat), ((bS r2.st).1.toNat : Nat), 0, 0, 0, 0, 0, 0⟩, r3.st) := by
    simp only [idH]; rw [← p1.2, ← p2.2, ← p3.2]
  generalize ((procS r.st).1.1.toNat : Int) = xn at hH ⊢
  generalize ((procS r.st).1.2 : Int) = xl at hH ⊢
  generalize ((uS 4294967295 r1.st).1 : Int) = xs at hH ⊢
  generalize (bS r2.st).1.toNat = D at hH hd ⊢
  have hI : idS r.st = if (D : Int) > 3 then (⟨xn, xl, xs, D, 0, 0, 0, 0, 0, 0⟩, r3.st) else stS D 0 ⟨xn, xl, xs, D, 0, 0, 0, 0, 0, 0⟩ r3.st := by
    rw [idS, hH]; simp only [Int.toNat_natCast]
  refine ⟨fun i n l s d g0 i0 g1 i1 g2 i2 w' L' => ∃ (j : Nat) (x : I) (r' : Rd1) (m' : Mem), i = j ∧ (D ≤ 3 → j ≤ D) ∧ n = x.n ∧ l = x.l ∧ s = x.s ∧ d = x.d ∧ g0 = x.g0 ∧ i0 = x.i0 ∧ g1 = x.g1 ∧ i1 = x.i1 ∧ g2 = x.g2 ∧ i2 = x.i2 ∧ x.d = D ∧ r'.ok m' ∧ (if (D : Int) > 3 then (x, r'.st) else stS (D - j) j x r'.st) = idS r.st ∧ Ctx F m w w' L' m' [r1A b r'], fun i _ _ _ _ _ _ _ _ _ _ _ => ((D : Int) - i).toNat, ⟨0, ⟨xn, xl, xs, D, 0, 0, 0, 0, 0, 0⟩, r3, m3, rfl, fun _ => by omega, rfl, rfl, rfl, rfl, rfl, rfl, rfl, rfl, rfl, rfl, rfl, p3.1, hI.symm, C.hidL h17 g17⟩, ?_⟩
  clear C hI hH
  rintro i n l s d g0 i0 g1 i1 g2 i2 wa La _ ⟨j, x, r', m', rfl, hj, rfl, rfl, rfl, rfl, rfl, rfl, rfl, rfl, rfl, rfl, hxd, hr', hst, C⟩
  rw [hxd]
  rw [w_i64 (n := ((D : Nat) : Int)) (by omega) (by omega)]
  by_cases h3 : (D : Int) > 3
  · rw [if_neg (by simp only [Bool.and_eq_true, decide_eq_true_eq]; omega)]
    rw [if_pos h3] at hst
    rw [← hxd]
    exact fun w39 h39 => Ctr.ret (m' := m') (L := []) r' (by rw [← hst]) ⟨hr', by rw [← hst]⟩ (C.hid0 h39)
  rw [if_neg h3] at hst
  have hj := hj (by omega)
  by_cases hjd : j < D
  rotate_left
  · rw [if_neg (by simp only [Bool.and_eq_true, decide_eq_true_eq]; omega)]
    have h0 : D - j = 0 := by omega
    rw [h0, stS] at hst
    rw [← hxd]
    exact fun w39 h39 => Ctr.ret (m' := m') (L := []) r' (by rw [← hst]) ⟨hr', by rw [← hst]⟩ (C.hid0 h39)
  rw [if_pos (by simp only [Bool.and_eq_true, decide_eq_true_eq]; omega)]
  have hs1 : D - j = (D - (j + 1)) + 1 := by omega
  refine (c_r1B b r').call (As := []) C hr' fun r5 m5 w41 hk hm5 p5 C => ⟨_, rfl, hk, by omega, by omega, ?_⟩
  rw [hs1, stS, ← p5.2] at hst
  have e : IntKind.wrap .i64 ((j : Int) + 1) = ((j + 1 : Nat) : Int) := by rw [w_i64 (by omega) (by omega)]; omega
  rw [e]
  have hdec : Nat.le ((((D : Int) - ((j + 1 : Nat) : Int)).toNat) + 1) (((D : Int) - (j : Int)).toNat) := Nat.le_of_eq (by omega)
  refine ⟨⟨fun h wb Lb hb gb => ?_, fun h wb Lb hb gb => ?_⟩, fun h wb Lb hb gb => ?_⟩
  · obtain rfl : j = 0 := by omega
    refine (c_r1B b r5).call (As := []) (C.hidL hb gb) p5.1 fun r6 m6 w44 hk hm6 p6 C => ⟨_, rfl, hk, by omega, by omega, ⟨fun _ wc Lc hc gc => ⟨rfl, ⟨1, x.put 0 ((bS r'.st).1.toNat : Nat) ((bS r5.st).1.toNat : Nat), r6, m6, rfl, fun _ => by omega, rfl, rfl, rfl, hxd.symm, rfl, rfl, rfl, rfl, rfl, rfl, hxd, p6.1, ?_, C.hidL hc gc⟩, hdec⟩, fun h2 => absurd h2 (by omega)⟩, fun h2 => absurd h2 (by omega)⟩
    rw [← p6.2] at hst
    rw [if_neg h3]; exact hst
  · obtain rfl : j = 1 := by omega
    refine (c_r1B b r5).call (As := []) (C.hidL hb gb) p5.1 fun r6 m6 w44 hk hm6 p6 C => ⟨_, rfl, hk, by omega, by omega, ⟨fun h2 => absurd h2 (by omega), fun _ wc Lc hc gc => ⟨rfl, ⟨2, x.put 1 ((bS r'.st).1.toNat : Nat) ((bS r5.st).1.toNat : Nat), r6, m6, rfl, fun _ => by omega, rfl, rfl, rfl, hxd.symm, rfl, rfl, rfl, rfl, rfl, rfl, hxd, p6.1, ?_, C.hidL hc gc⟩, hdec⟩⟩, fun h2 => absurd h2 (by omega)⟩
    rw [← p6.2] at hst
    rw [if_neg h3]; exact hst
  · obtain rfl : j = 2 := by omega
    refine (c_r1B b r5).call (As := []) (C.hidL hb gb) p5.1 fun r6 m6 w44 hk hm6 p6 C => ⟨_, rfl, hk, by omega, by omega, ⟨fun h2 => absurd h2 (by omega), fun h2 => absurd h2 (by omega)⟩, fun _ wc Lc hc gc => ⟨rfl, ⟨3, x.put 2 ((bS r'.st).1.toNat : Nat) ((bS r5.st).1.toNat : Nat), r6, m6, rfl, fun _ => by omega, rfl, rfl, rfl, hxd.symm, rfl, rfl, rfl, rfl, rfl, rfl, hxd, p6.1, ?_, C.hidL hc gc⟩, hdec⟩⟩
    rw [← p6.2] at hst
    rw [if_neg h3]; exact hst
end Go.Proofs
namespace Go.Proofs
open Go X RowKit
theorem some_errstep {α : Type} {g : St → α × St} (hg : Dead g) (k : Nat) (s : St) (h : (g s).2.2 ≠ 0) (hn : (g s).2.2 ≠ 0 → (g s).2.1 = []) : someS g (k + 1) s = someS g k (g s).2 := by
  rw [someS, if_pos h, some_dead hg k h (hn h)]
theorem some_okstep {α : Type} {g : St → α × St} (k : Nat) (s : St) (h : (g s).2.2 = 0) : someS g (k + 1) s = ((g s).1 :: (someS g k (g s).2).1, (someS g k (g s).2).2) := by
  rw [someS, if_neg (fun hc => hc h)]
theorem fail_ne (r : Rd1) : (r.fail 6).e ≠ 0 := by
  unfold Rd1.fail
  show (if r.e = 0 then (6 : Int) else r.e) ≠ 0
  split
  · decide
  · assumption
theorem c_r5Get (b : Nat) (r : Rd1) : Ctr Tryz.prog 144 #[.pointer (some ⟨b, 0, none⟩)] (fun m => r.ok m) [r1A b r] (fun p : En × Rd1 => .agg p.1.row.toArray) (fun p m => EnM m p.1 ∧ p.1.er = (evS r.st).1 ∧ p.2.ok m ∧ p.2.st = (evS r.st).2) (fun p => [r1A b p.2]) := by
  refine Ctr.mk fun w F m C hr => x_r5Get _ w _ fun w1 L2 h1 g1 => ?_
  refine (c_r1B b r).call (As := []) (C.hidL h1 g1) hr fun r1 m1 w4 hk hm1 p1 C => ⟨_, rfl, hk, r1.e, C.blkCell (j := 1) rfl, C.blkAt.2, ?_⟩
  have q1 := p1.1
  have hE : evS r.st = if r1.st.2 ≠ 0 then (Ev.zero 0, r1.st) else if (bS r.st).1.toNat = 3 then evK 3 r1.st else if (bS r.st).1.toNat = 0 then evC 0 r1.st else if (bS r.st).1.toNat = 1 then evBk 1 r1.st else if (bS r.st).1.toNat = 2 then evKl 2 r1.st else (Ev.zero ((bS r.st).1.toNat : Nat), failS r1.st 6) := by
    simp only [evS]; rw [← p1.2]
  have hK := bS_lt r.st
  generalize (bS r.st).1.toNat = K at hE hK ⊢
  generalize evS r.st = E at hE ⊢
  have nM : ∀ (m : Mem) (e : En), e.pq = (none, 0) → e.ps = [] → e.wq = (none, 0) → e.ws = [] → EnM m e := fun m e h1 h2 h3 h4 => by
    obtain ⟨kd, id, fl, pq, ps, rc, rv, wq, ws, vn, vl⟩ := e
    cases h1; cases h2; cases h3; cases h4
    exact ⟨.nil .., .nil .., Nat.zero_le _, Nat.zero_le _⟩
  rw [st_e] at hE
  by_cases hz : r1.e = 0
  rotate_left
  · rw [if_pos (by simp [hz])]
    rw [if_pos hz] at hE
    subst hE
    have := nM m1 ⟨0, I.zero, 0, (none, 0), [], 0, ByteArray.mk #[], (none, 0), [], 0, 0⟩ rfl rfl rfl rfl
    exact fun w122 h122 => Ctr.ret (m' := m1) (L := []) (⟨0, I.zero, 0, (none, 0), [], 0, ByteArray.mk #[], (none, 0), [], 0, 0⟩, r1) rfl ⟨this, rfl, q1, rfl⟩ (C.hid0 h122)
  rw [if_neg (by simp [hz])]
  rw [if_neg (fun h => h hz)] at hE
  by_cases k3 : K = 3
  · subst k3
    rw [if_pos rfl] at hE
    repeat (first | rw [if_pos (by decide)] | rw [if_neg (by decide)])
    intro wa La ha ga
    refine (c_r2GetID b r1).call (As := []) (C.hidL ha ga) q1 fun r2 m3 w81 hk hm3 p2 C => ⟨_, _, _, _, _, _, _, _, _, _, rfl, hk, fun w92 L93 h92 g92 => ?_⟩
    refine (c_r1U b r2 4294967295 (by decide)).call (As := []) (C.hidL h92 g92) p2.1 fun r3 m4 w95 hk hm4 p3 C => ⟨_, rfl, hk, fun w97 L98 h97 g97 => ?_⟩
    refine (c_r3GetAll b r3).call (As := []) (C.hidL h97 g97) p3.1 fun p m5 w100 hk hm5 p4 C => ⟨_, _, _, rfl, hk, ?_⟩
    obtain ⟨pq, rp⟩ := p
    obtain ⟨pM, pO, pS⟩ := p4
    simp only at pM pO pS C ⊢
    repeat (first | rw [if_pos (by decide)] | rw [if_neg (by decide)])
    intro w105 L106 h105 g105
    refine (c_r3GetRes b rp).call (As := []) (C.hidL h105 g105) pO fun r5 m6 w108 hk hm6 p5 C => ⟨_, _, rfl, hk, fun w111 L112 h111 g111 => ?_⟩
    refine (c_r1B b r5).call (As := []) (C.hidL h111 g111) p5.1 fun r6 m7 w114 hk hm7 p6 C => ⟨_, rfl, hk, ?_⟩
    have hlt := uS_lt 4294967295 r2.st (by decide)
    have hw := bS_lt r5.st
    rw [w_u32 (by omega) (by omega)]
    have hT : someS wrS (bS r5.st).1.toNat r6.st = wrsS r5.st := by rw [wrsS, p6.2]
    have hEE : E = ({ Ev.zero 3 with id := (idS r1.st).1, fl := ((uS 4294967295 r2.st).1 : Nat), ps := (ptsS r3.st).1, rc := (resS rp.st).1.c, rv := (resS rp.st).1.v, ws := (wrsS r5.st).1 }, (wrsS r5.st).2) := by
      subst hE; simp only [evK, evC]; rw [← p2.2, ← p3.2, ← pS, ← p5.2]
    have hpl := ptsS_len r3.st
    have hwl := wrsS_len r5.st
    clear hE
    generalize (bS r5.st).1.toNat = n at hT hw ⊢
    generalize wrsS r5.st = T at hT hEE hwl ⊢
    generalize (idS r1.st).1 = xi at hEE ⊢
    generalize (((uS 4294967295 r2.st).1 : Nat) : Int) = xf at hEE ⊢
    generalize (ptsS r3.st).1 = xp at hEE hpl pM ⊢
    generalize (resS rp.st).1.c = xc at hEE ⊢
    generalize (resS rp.st).1.v = xv at hEE ⊢
    rw [w_i64 (n := ((n : Nat) : Int)) (by omega) (by omega)]
    replace pM := (pM.mono hm6).mono hm7
    refine ⟨fun i kd n0 l0 s0 d0 g0 i0 g1 i1 g2 i2 fl pq' pk pc rc rv wq wk wc vn vl w' L' => ∃ (j : Nat) (r' : Rd1) (m' : Mem) (pre : List Wr), i = j ∧ kd = 3 ∧ n0 = xi.n ∧ l0 = xi.l ∧ s0 = xi.s ∧ d0 = xi.d ∧ g0 = xi.g0 ∧ i0 = xi.i0 ∧ g1 = xi.g1 ∧ i1 = xi.i1 ∧ g2 = xi.g2 ∧ i2 = xi.i2 ∧ fl = xf ∧ pq' = pq.1 ∧ pk = xp.length ∧ pc = pq.2 ∧ rc = xc ∧ rv = xv ∧ wk = pre.length ∧ vn = 0 ∧ vl = 0 ∧ j ≤ n ∧ pre.length ≤ j ∧ m7.le m' ∧ r'.ok m' ∧ (pre ++ (someS wrS (n - j) r'.st).1, (someS wrS (n - j) r'.st).2) = T ∧ Ctx F m w w' L' m' [slA (.slice wq pre.length wc) pre.length (pre.flatMap Wr.row) 126 3, r1A b r'], fun i _ _ _ _ _ _ _ _ _ _ _ _ _ _ _ _ _ _ _ _ _ _ _ => ((n : Int) - i).toNat, ⟨0, r6, m7, [], rfl, rfl, rfl, rfl, rfl, rfl, rfl, rfl, rfl, rfl, rfl, rfl, rfl, rfl, rfl, rfl, rfl, rfl, rfl, rfl, rfl, by omega, Nat.le_refl _, fun _ _ h => h, p6.1, hT, C.slNil⟩, ?_⟩
    clear C hT
    rintro i kd n0 l0 s0 d0 g0 i0 g1 i1 g2 i2 fl pq' pk pc rc rv wq wk wc vn vl wz Lz _ ⟨j, r', m', pre, rfl, rfl, rfl, rfl, rfl, rfl, rfl, rfl, rfl, rfl, rfl, rfl, rfl, rfl, rfl, rfl, rfl, rfl, rfl, rfl, rfl, hj, hpre, hmm, hr', he, C⟩
    have fin : ∀ (w2 : World), X.Hid Lz wz w2 → (pre, r'.st) = T → ∃ (p : En × Rd1) (m'' : Mem) (L : List Nat), Ending.returned (.agg #[.int .u8 3, .int .u8 xi.n, .int .u16 xi.l, .int .u32 xi.s, .int .u8 xi.d, .int .u8 xi.g0, .int .u8 xi.i0, .int .u8 xi.g1, .int .u8 xi.i1, .int .u8 xi.g2, .int .u8 xi.i2, .int .u32 fl, .slice pq.1 xp.length pq.2, .int .u8 rc, .string rv, .slice wq pre.length wc, .int .u8 0, .int .u16 0]) = .returned (.agg p.1.row.toArray) ∧ (EnM m'' p.1 ∧ p.1.er = E.1 ∧ p.2.ok m'' ∧ p.2.st = E.2) ∧ Ctx F m w w2 L m'' [r1A b p.2] := fun w2 hh h2 => by
      subst h2
      obtain ⟨m3, hm3, hs, D⟩ := (C.hid0 hh).slShare
      refine ⟨(⟨3, xi, fl, pq, xp, rc, rv, (wq, wc), pre, 0, 0⟩, r'), m3, [], rfl, ⟨⟨(pM.mono hmm).mono hm3, hs, by show xp.length ≤ _; omega, by have hwl : pre.length ≤ 255 := hwl; show pre.length ≤ _; omega⟩, by rw [hEE]; rfl, hr'.mono hm3, by rw [hEE]⟩, D⟩
    by_cases hjn : j < n
    rotate_left
    · rw [if_neg (by simp only [beq_iff_eq, decide_eq_true_eq]; omega)]
      have h0 : n - j = 0 := by omega
      simp only [h0, someS, List.append_nil] at he
      exact fun w2 h2 => fin w2 h2 he
    rw [if_pos (by simp only [beq_iff_eq, decide_eq_true_eq]; omega)]
    refine ⟨r'.e, C.swap.blkCell (j := 1) rfl, C.swap.blkAt.2, ?_⟩
    by_cases hz1 : r'.e = 0
    rotate_left
    · rw [if_neg (by simp [hz1])]
      have hz' : r'.st.2 ≠ 0 := by rw [st_e]; exact hz1
      rw [some_dead dead_wr _ hz' (st_canon r' hz'), List.append_nil] at he
      exact fun w2 h2 => fin w2 h2 he
    rw [if_pos (by simp [hz1])]
    have h1 : n - j = (n - (j + 1)) + 1 := by omega
    have e : IntKind.wrap .i64 ((j : Int) + 1) = ((j + 1 : Nat) : Int) := by rw [w_i64 (by omega) (by omega)]; omega
    have hdec : Nat.le ((((n : Int) - ((j + 1 : Nat) : Int)).toNat) + 1) (((n : Int) - (j : Int)).toNat) := Nat.le_of_eq (by omega)
    rw [e]
    refine (c_r1RText b r' 255 (by decide)).call (As := [_]) C.swap hr' fun t1 n1 y1 hk hn1 u1 C => ⟨_, rfl, hk, fun wb Lb hb gb => ?_⟩
    refine (c_r1RText b t1 255 (by decide)).call (As := [_]) (C.hidL hb gb) u1.1 fun t2 n2 y2 hk hn2 u2 C => ⟨_, rfl, hk, fun wc' Lc hc gc => ?_⟩
    refine (c_r1B b t2).call (As := [_]) (C.hidL hc gc) u2.1 fun t3 n3 y3 hk hn3 u3 C => ⟨_, rfl, hk, ?_⟩
    have hmm3 : m7.le n3 := ((hmm.le_trans hn1).le_trans hn2).le_trans hn3
    rw [h1] at he
    rw [b_one]
    by_cases hb1 : (bS t2.st).1.toNat > 1
    · rw [if_pos (by simp only [decide_eq_true_eq]; omega)]
      have hW : (wrS r'.st).2 = (t3.fail 6).st := by
        simp only [wrS]; rw [← u1.2, ← u2.2, flagS]; simp only [if_pos hb1]; rw [← u3.2, st_fail _ _ (by decide)]
      have hne : (wrS r'.st).2.2 ≠ 0 := by rw [hW, st_e]; exact fail_ne t3
      rw [some_errstep dead_wr _ _ hne (by rw [hW]; exact st_canon _), hW] at he
      intro wd Ld hd gd
      refine (c_r1Fail b t3 6).call (As := [_]) (C.hidL hd gd) trivial fun _ n4 y4 hk hn4 _ C => ⟨rfl, hk, (t3.fail 6).e, C.blkCell (j := 1) rfl, C.blkAt.2, ?_⟩
      rw [if_neg (by simp only [beq_iff_eq]; exact fail_ne t3)]
      exact ⟨trivial, ⟨j + 1, t3.fail 6, n4, pre, rfl, rfl, rfl, rfl, rfl, rfl, rfl, rfl, rfl, rfl, rfl, rfl, rfl, rfl, rfl, rfl, rfl, rfl, rfl, rfl, rfl, hjn, by omega, hmm3.le_trans hn4, fail_ok (u3.1.mono hn4) 6, he, C.swap⟩, hdec⟩
    rw [if_neg (by simp only [decide_eq_true_eq]; omega)]
    have hW : wrS r'.st = (⟨toBA (textS 255 r'.st).1, toBA (textS 255 t1.st).1, (bS t2.st).1 == 1⟩, t3.st) := by
      simp only [wrS]; rw [← u1.2, ← u2.2, flagS]; simp only [if_neg hb1]; rw [← u3.2]
    refine ⟨t3.e, C.blkCell (j := 1) rfl, C.blkAt.2, ?_⟩
    by_cases hz3 : t3.e = 0
    rotate_left
    · rw [if_neg (by simp [hz3])]
      have hne : (wrS r'.st).2.2 ≠ 0 := by rw [hW, st_e]; exact hz3
      rw [some_errstep dead_wr _ _ hne (by rw [hW]; exact st_canon _), hW] at he
      exact fun wd Ld hd gd => ⟨trivial, ⟨j + 1, t3, n3, pre, rfl, rfl, rfl, rfl, rfl, rfl, rfl, rfl, rfl, rfl, rfl, rfl, rfl, rfl, rfl, rfl, rfl, rfl, rfl, rfl, rfl, hjn, by omega, hmm3, u3.1, he, (C.hidL hd gd).swap⟩, hdec⟩
    rw [if_pos (by simp [hz3])]
    have heq : (wrS r'.st).2.2 = 0 := by rw [hW, st_e]; exact hz3
    rw [some_okstep _ _ heq, hW] at he
    simp only at he
    intro wd Ld hd gd
    replace C := C.hidL hd gd
    have hx : ∀ (x : Wr), x = ⟨toBA (textS 255 r'.st).1, toBA (textS 255 t1.st).1, (bS t2.st).1 == 1⟩ → x.row = [.string (toBA (textS 255 r'.st).1), .string (toBA (textS 255 t1.st).1), .bool ((bS t2.st).1 == 1)] := fun x h => by rw [h]
    generalize hxx : (⟨toBA (textS 255 r'.st).1, toBA (textS 255 t1.st).1, (bS t2.st).1 == 1⟩ : Wr) = x at he
    have hxr := hx x hxx.symm
    have D0 := (C.swap.alloc x.row 126).swap
    have hcl : Cells _ ⟨wd.heap.size, 0, none⟩ x.row := (C.swap.alloc x.row 126).blkCells (o := 0) fun k v e => by simpa using e
    obtain ⟨q2, c2, w25, ha2, hkk, D2⟩ := Ctx.app2 (P := Tryz.prog) (bytes := 40) (t := 122) (t2 := 122) D0 122 (by kernel_rfl) (.some ⟨wd.heap.size, 0, none⟩ 1 1 x.row rfl hcl) (by unfold maxLen; omega) (by omega) (wr_one _)
    have e1 : (pre ++ [x]).length = pre.length + 1 := by simp
    have e3 : (pre ++ [x]).flatMap Wr.row = pre.flatMap Wr.row ++ x.row := by simp
    rw [← e3, ← e1] at D2
    rw [hxr] at ha2 hkk
    refine ⟨q2, _, c2, w25, ha2, hkk, fun we Le he1 ge1 => ⟨trivial, ⟨j + 1, t3, n3, pre ++ [x], rfl, rfl, rfl, rfl, rfl, rfl, rfl, rfl, rfl, rfl, rfl, rfl, rfl, rfl, rfl, rfl, rfl, rfl, e1.symm, rfl, rfl, hjn, by omega, hmm3, u3.1, ?_, (D2.pk [0, 2] [1] rfl).hidL he1 ge1⟩, hdec⟩⟩
    rw [← he, List.append_assoc]; rfl
  rw [if_neg k3] at hE
  by_cases k0 : K = 0
  · subst k0
    rw [if_pos rfl] at hE
    repeat (first | rw [if_pos (by decide)] | rw [if_neg (by decide)])
    intro wa La ha ga
    refine (c_r2GetID b r1).call (As := []) (C.hidL ha ga) q1 fun r2 m3 w81 hk hm3 p2 C => ⟨_, _, _, _, _, _, _, _, _, _, rfl, hk, fun w92 L93 h92 g92 => ?_⟩
    refine (c_r1U b r2 4294967295 (by decide)).call (As := []) (C.hidL h92 g92) p2.1 fun r3 m4 w95 hk hm4 p3 C => ⟨_, rfl, hk, fun w97 L98 h97 g97 => ?_⟩
    refine (c_r3GetAll b r3).call (As := []) (C.hidL h97 g97) p3.1 fun p m5 w100 hk hm5 p4 C => ⟨_, _, _, rfl, hk, ?_⟩
    repeat (first | rw [if_pos (by decide)] | rw [if_neg (by decide)])
    have hlt := uS_lt 4294967295 r2.st (by decide)
    rw [w_u32 (by omega) (by omega)]
    have hpl := ptsS_len r3.st
    refine fun w104 h104 => Ctr.ret (m' := m5) (L := []) (⟨0, (idS r1.st).1, ((uS 4294967295 r2.st).1 : Nat), p.1, (ptsS r3.st).1, 0, ByteArray.mk #[], (none, 0), [], 0, 0⟩, p.2) rfl ⟨⟨p4.1, .nil .., by show (ptsS r3.st).1.length ≤ _; omega, Nat.zero_le _⟩, ?_, p4.2.1, ?_⟩ (C.hid0 h104)
    · subst hE; simp only [evC]; rw [← p2.2, ← p3.2]; rfl
    · subst hE; simp only [evC]; rw [← p2.2, ← p3.2]; exact p4.2.2
  rw [if_neg k0] at hE
  by_cases k1 : K = 1
  · subst k1
    rw [if_pos rfl] at hE
    repeat (first | rw [if_pos (by decide)] | rw [if_neg (by decide)])
    intro wa La ha ga
    refine (c_r2GetID b r1).call (As := []) (C.hidL ha ga) q1 fun r2 m3 w81 hk hm3 p2 C => ⟨_, _, _, _, _, _, _, _, _, _, rfl, hk, fun w92 L93 h92 g92 => ?_⟩
    refine (c_r3GetRes b r2).call (As := []) (C.hidL h92 g92) p2.1 fun r5 m6 w108 hk hm6 p5 C => ⟨_, _, rfl, hk, fun w37 h37 => ?_⟩
    have := nM m6 ⟨1, (idS r1.st).1, 0, (none, 0), [], (resS r2.st).1.c, (resS r2.st).1.v, (none, 0), [], 0, 0⟩ rfl rfl rfl rfl
    refine Ctr.ret (m' := m6) (L := []) (⟨1, (idS r1.st).1, 0, (none, 0), [], (resS r2.st).1.c, (resS r2.st).1.v, (none, 0), [], 0, 0⟩, r5) rfl ⟨this, ?_, p5.1, ?_⟩ (C.hid0 h37)
    · subst hE; simp only [evBk]; rw [← p2.2]; rfl
    · subst hE; simp only [evBk]; rw [← p2.2]; exact p5.2
  rw [if_neg k1] at hE
  by_cases k2 : K = 2
  · subst k2
    rw [if_pos rfl] at hE
    repeat (first | rw [if_pos (by decide)] | rw [if_neg (by decide)])
    intro wa La ha ga
    refine (c_r2GetProc b r1).call (As := []) (C.hidL ha ga) q1 fun r2 m3 w15 hk hm3 p2 C => ⟨_, _, rfl, hk, fun w18 h18 => ?_⟩
    have := nM m3 ⟨2, I.zero, 0, (none, 0), [], 0, ByteArray.mk #[], (none, 0), [], ((procS r1.st).1.1.toNat : Nat), ((procS r1.st).1.2 : Nat)⟩ rfl rfl rfl rfl
    refine Ctr.ret (m' := m3) (L := []) (⟨2, I.zero, 0, (none, 0), [], 0, ByteArray.mk #[], (none, 0), [], ((procS r1.st).1.1.toNat : Nat), ((procS r1.st).1.2 : Nat)⟩, r2) rfl ⟨this, ?_, p2.1, ?_⟩ (C.hid0 h18)
    · subst hE; rfl
    · subst hE; exact p2.2
  rw [if_neg k2] at hE
  repeat (rw [if_neg (by simp only [beq_iff_eq]; omega)])
  intro wa La ha ga
  refine (c_r1Fail b r1 6).call (As := []) (C.hidL ha ga) trivial fun _ m3 w12 hk hm3 _ C => ⟨rfl, hk, fun w13 h13 => ?_⟩
  subst hE
  have := nM m3 ⟨(K : Nat), I.zero, 0, (none, 0), [], 0, ByteArray.mk #[], (none, 0), [], 0, 0⟩ rfl rfl rfl rfl
  exact Ctr.ret (m' := m3) (L := []) (⟨(K : Nat), I.zero, 0, (none, 0), [], 0, ByteArray.mk #[], (none, 0), [], 0, 0⟩, r1.fail 6) rfl ⟨this, rfl, fail_ok (q1.mono hm3) 6, st_fail _ _ (by decide)⟩ (C.hid0 h13)
theorem c_r5GetAll (b : Nat) (r : Rd1) : Ctr Tryz.prog 102 #[.pointer (some ⟨b, 0, none⟩)] (fun m => r.ok m) [r1A b r] (fun p : Sl × List En × Rd1 => slV p.1 p.2.1.length) (fun p m => EsM m p.1 p.2.1 ∧ p.2.1.map En.er = (evsS r.st).1 ∧ p.2.2.ok m ∧ p.2.2.st = (evsS r.st).2) (fun p => [r1A b p.2.2]) := by
  refine Ctr.mk fun w F m C hr => x_r5GetAll _ w _ ?_
  refine (c_r1U b r 400 (by decide)).call (As := []) C hr fun r0 m1 w2 hk hm1 p1 C => ⟨_, rfl, hk.size, ?_⟩
  have hD := uS_lt 400 r.st (by decide)
  have hT : okE (someS evS (uS 400 r.st).1 r0.st) = evsS r.st := by rw [evsS, p1.2]
  generalize (uS 400 r.st).1 = n at hT hD ⊢
  generalize evsS r.st = T at hT ⊢
  refine ⟨fun q k c i w' L' => ∃ (j : Nat) (r' : Rd1) (m' : Mem) (pre : List En), i = j ∧ j ≤ n ∧ k = pre.length ∧ pre.length = j ∧ r'.ok m' ∧ (∀ e ∈ pre, EnM m' e) ∧ okE (pre.map En.er ++ (someS evS (n - j) r'.st).1, (someS evS (n - j) r'.st).2) = T ∧ Ctx F m w w' L' m' [slA (.slice q pre.length c) pre.length (pre.flatMap En.row) 124 18, r1A b r'], fun _ _ _ i _ => ((n : Int) - i).toNat, ⟨0, r0, m1, [], rfl, by omega, rfl, rfl, p1.1, by simp, hT, C.noL.slNil⟩, ?_⟩
  clear C hT
  rintro q k c i w7 L8 _ ⟨j, r', m', pre, rfl, hj, rfl, hpl, hr', hpr, he, C⟩
  have finE : r'.e ≠ 0 → ∃ (p : Sl × List En × Rd1) (m' : Mem) (L : List Nat), Ending.returned (Value.slice none 0 0) = .returned (slV p.1 p.2.1.length) ∧ (EsM m' p.1 p.2.1 ∧ p.2.1.map En.er = T.1 ∧ p.2.2.ok m' ∧ p.2.2.st = T.2) ∧ Ctx F m w w7 L m' [r1A b p.2.2] := fun hz => by
    have hz' : r'.st.2 ≠ 0 := by rw [st_e]; exact hz
    rw [some_dead dead_ev _ hz' (st_canon r' hz'), okE_err hz'] at he
    subst he
    exact ⟨((none, 0), [], r'), m', L8, rfl, ⟨esNil _, rfl, hr', rfl⟩, C.pk [1] [0] rfl⟩
  by_cases hjn : j < n
  rotate_left
  · rw [if_neg (by simp only [beq_iff_eq, decide_eq_true_eq]; omega)]
    refine ⟨r'.e, C.swap.blkCell (j := 1) rfl, ?_⟩
    by_cases hz : r'.e = 0
    rotate_left
    · rw [if_pos (by simp [hz])]
      exact finE hz
    rw [if_neg (by simp [hz])]
    have h0 : n - j = 0 := by omega
    simp only [h0, someS, List.append_nil] at he
    rw [okE_ok (by rw [st_e]; exact hz)] at he
    subst he
    obtain ⟨m3, hm3, hs, D⟩ := C.slShare
    exact ⟨((q, c), pre, r'), m3, L8, rfl, ⟨⟨hs, fun e h => (hpr e h).mono hm3⟩, rfl, hr'.mono hm3, rfl⟩, D⟩
  rw [if_pos (by simp only [beq_iff_eq, decide_eq_true_eq]; omega)]
  refine ⟨r'.e, C.swap.blkCell (j := 1) rfl, ?_⟩
  by_cases hz : r'.e = 0
  rotate_left
  · rw [if_neg (by simp [hz])]
    refine ⟨r'.e, C.swap.blkCell (j := 1) rfl, ?_⟩
    rw [if_pos (by simp [hz])]
    exact finE hz
  rw [if_pos (by simp [hz])]
  have h1 : n - j = (n - (j + 1)) + 1 := by omega
  have e : IntKind.wrap .u64 ((j : Int) + 1) = ((j + 1 : Nat) : Int) := by rw [w_u64 (by omega) (by omega)]; omega
  have hdec : Nat.le ((((n : Int) - ((j + 1 : Nat) : Int)).toNat) + 1) (((n : Int) - (j : Int)).toNat) := Nat.le_of_eq (by omega)
  refine (c_r5Get b r').call (As := [_]) C.swap hr' fun p m2 w16 hk hm2 p2 C => ⟨_, _, _, _, _, _, _, _, _, _, _, _, _, _, _, _, _, _, _, _, _, _, rfl, hk.size, fun w39 L40 h39 g39 => ?_⟩
  obtain ⟨x, r2⟩ := p
  obtain ⟨hxm, hx, hok, hst⟩ := p2
  simp only at hxm hx hok hst C ⊢
  replace C := C.noL.hidL h39 g39
  rw [h1, okE_step dead_ev _ _ (by rw [← hst]; exact st_canon r2), ← hst, ← hx] at he
  rw [e]
  have D0 := (C.swap.alloc x.row 124).swap
  have hcl : Cells _ ⟨w39.heap.size, 0, none⟩ x.row := (C.swap.alloc x.row 124).blkCells (o := 0) fun k v e => by simpa using e
  obtain ⟨q2, c2, w25, ha, hkk, D2⟩ := Ctx.app2 (P := Tryz.prog) (bytes := 400) (t := 38) (t2 := 38) D0 38 (by kernel_rfl) (.some ⟨w39.heap.size, 0, none⟩ 1 1 x.row rfl hcl) (by unfold maxLen; omega) (by omega) (en_one _)
  have e1 : (pre ++ [x]).length = pre.length + 1 := by simp
  have e3 : (pre ++ [x]).flatMap En.row = pre.flatMap En.row ++ x.row := by simp
  refine ⟨q2, _, c2, w25, ha, hkk, ⟨j + 1, r2, m2, pre ++ [x], rfl, hjn, e1.symm, by omega, hok, ?_, ?_, ?_⟩, hdec⟩
  · intro y hy
    rcases List.mem_append.1 hy with hy | hy
    · exact (hpr y hy).mono hm2
    · simp only [List.mem_singleton] at hy; subst hy; exact hxm
  · rw [List.map_append]; exact he
  · rw [← e3, ← e1] at D2
    exact D2.pk [0, 2] [1] rfl
end Go.Proofs
namespace Go.Proofs
open Go X RowKit
theorem c_r7get (b : Nat) (r : Rd1) (x : Mg) (c : Int) : Ctr Tryz.prog 40 #[.pointer (some ⟨b, 0, none⟩), .agg x.row.toArray, .int .u8 c] (fun m => r.ok m ∧ MgM m x) [r1A b r] (fun p : Mg × Rd1 => .agg p.1.row.toArray) (fun p m => MgM m p.1 ∧ p.1.er = (getL x.er c r.st).1 ∧ p.2.ok m ∧ p.2.st = (getL x.er c r.st).2) (fun p => [r1A b p.2]) := by
  refine Ctr.mk fun w F m C hp => x_r7get _ _ _ _ _ _ _ _ _ _ _ _ _ _ _ _ _ _ _ _ _ _ _ _ _ _ _ _ _ _ _ _ _ _ _ _ _ _ _ _ _ _ _ w _ ?_
  obtain ⟨hr, hx⟩ := hp
  by_cases h103 : c = 103
  · subst h103
    rw [if_pos (by decide)]
    intro w1 L1 h1 g1
    refine (c_r1B b r).call (As := []) (C.hidL h1 g1) hr fun r1 m1 w2 hk hm1 p1 C => ⟨_, rfl, hk, fun w3 h3 => ?_⟩
    have hy := hx.mono hm1
    exact Ctr.ret (m' := m1) (L := []) ({ x with gr := ((bS r.st).1.toNat : Nat) }, r1) rfl ⟨⟨hy.p, hy.v, hy.mm, hy.e, hy.t, hy.pl, hy.vl, hy.ml, hy.el, hy.tl⟩, rfl, p1.1, p1.2⟩ (C.hid0 h3)
  rw [if_neg (by simpa using h103)]
  by_cases h105 : c = 105
  · subst h105
    rw [if_pos (by decide)]
    intro w1 L1 h1 g1
    refine (c_r2GetID b r).call (As := []) (C.hidL h1 g1) hr fun r1 m1 w2 hk hm1 p1 C => ⟨_, _, _, _, _, _, _, _, _, _, rfl, hk, fun w3 h3 => ?_⟩
    have hy := hx.mono hm1
    exact Ctr.ret (m' := m1) (L := []) ({ x with id := (idS r.st).1 }, r1) rfl ⟨⟨hy.p, hy.v, hy.mm, hy.e, hy.t, hy.pl, hy.vl, hy.ml, hy.el, hy.tl⟩, rfl, p1.1, p1.2⟩ (C.hid0 h3)
  rw [if_neg (by simpa using h105)]
  by_cases h102 : c = 102
  · subst h102
    rw [if_pos (by decide)]
    intro w1 L1 h1 g1
    refine (c_r1U b r 4294967295 (by decide)).call (As := []) (C.hidL h1 g1) hr fun r1 m1 w2 hk hm1 p1 C => ⟨_, rfl, hk, fun w3 h3 => ?_⟩
    have hlt := uS_lt 4294967295 r.st (by decide)
    rw [w_u32 (by omega) (by omega)]
    have hy := hx.mono hm1
    exact Ctr.ret (m' := m1) (L := []) ({ x with fl := ((uS 4294967295 r.st).1 : Nat) }, r1) rfl ⟨⟨hy.p, hy.v, hy.mm, hy.e, hy.t, hy.pl, hy.vl, hy.ml, hy.el, hy.tl⟩, rfl, p1.1, p1.2⟩ (C.hid0 h3)
  rw [if_neg (by simpa using h102)]
  by_cases h112 : c = 112
  · subst h112
    rw [if_pos (by decide)]
    intro w1 L1 h1 g1
    refine (c_r3GetAll b r).call (As := []) (C.hidL h1 g1) hr fun p m1 w2 hk hm1 p1 C => ⟨_, _, _, rfl, hk, fun w3 h3 => ?_⟩
    have hy := hx.mono hm1
    exact Ctr.ret (m' := m1) (L := []) ({ x with pq := p.1, ps := (ptsS r.st).1 }, p.2) rfl ⟨⟨p1.1, hy.v, hy.mm, hy.e, hy.t, Nat.le_trans (ptsS_len r.st) (by decide), hy.vl, hy.ml, hy.el, hy.tl⟩, rfl, p1.2.1, p1.2.2⟩ (C.hid0 h3)
  rw [if_neg (by simpa using h112)]
  by_cases h114 : c = 114
  · subst h114
    rw [if_pos (by decide)]
    intro w1 L1 h1 g1
    refine (c_r3GetRes b r).call (As := []) (C.hidL h1 g1) hr fun r1 m1 w2 hk hm1 p1 C => ⟨_, _, rfl, hk, fun w3 h3 => ?_⟩
    have hy := hx.mono hm1
    exact Ctr.ret (m' := m1) (L := []) ({ x with rc := (resS r.st).1.c, rv := (resS r.st).1.v }, r1) rfl ⟨⟨hy.p, hy.v, hy.mm, hy.e, hy.t, hy.pl, hy.vl, hy.ml, hy.el, hy.tl⟩, rfl, p1.1, p1.2⟩ (C.hid0 h3)
  rw [if_neg (by simpa using h114)]
  by_cases h118 : c = 118
  · subst h118
    rw [if_pos (by decide)]
    intro w1 L1 h1 g1
    refine (c_r6Get b r).call (As := []) (C.hidL h1 g1) hr fun p m1 w2 hk hm1 p1 C => ⟨_, _, _, _, _, rfl, hk, fun w3 h3 => ?_⟩
    have hy := hx.mono hm1
    exact Ctr.ret (m' := m1) (L := []) ({ x with vg := (vwS r.st).1.1, vn := (vwS r.st).1.2.1, vq := p.1, vm := (vwS r.st).1.2.2 }, p.2) rfl ⟨⟨hy.p, p1.1, hy.mm, hy.e, hy.t, hy.pl, Nat.le_trans (vwS_len r.st) (by decide), hy.ml, hy.el, hy.tl⟩, rfl, p1.2.1, p1.2.2⟩ (C.hid0 h3)
  rw [if_neg (by simpa using h118)]
  by_cases h99 : c = 99
  · subst h99
    rw [if_pos (by decide)]
    intro w1 L1 h1 g1
    refine (c_r1B b r).call (As := []) (C.hidL h1 g1) hr fun r1 m1 w2 hk hm1 p1 C => ⟨_, rfl, hk, fun w3 h3 => ?_⟩
    have hy := hx.mono hm1
    exact Ctr.ret (m' := m1) (L := []) ({ x with co := ((bS r.st).1.toNat : Nat) }, r1) rfl ⟨⟨hy.p, hy.v, hy.mm, hy.e, hy.t, hy.pl, hy.vl, hy.ml, hy.el, hy.tl⟩, rfl, p1.1, p1.2⟩ (C.hid0 h3)
  rw [if_neg (by simpa using h99)]
  by_cases h110 : c = 110
  · subst h110
    rw [if_pos (by decide)]
    intro w1 L1 h1 g1
    refine (c_r1U b r 4294967295 (by decide)).call (As := []) (C.hidL h1 g1) hr fun r1 m1 w2 hk hm1 p1 C => ⟨_, rfl, hk, fun w3 h3 => ?_⟩
    have hlt := uS_lt 4294967295 r.st (by decide)
    rw [w_u32 (by omega) (by omega)]
    have hy := hx.mono hm1
    exact Ctr.ret (m' := m1) (L := []) ({ x with nn := ((uS 4294967295 r.st).1 : Nat) }, r1) rfl ⟨⟨hy.p, hy.v, hy.mm, hy.e, hy.t, hy.pl, hy.vl, hy.ml, hy.el, hy.tl⟩, rfl, p1.1, p1.2⟩ (C.hid0 h3)
  rw [if_neg (by simpa using h110)]
  by_cases h97 : c = 97
  · subst h97
    rw [if_pos (by decide)]
    intro w1 L1 h1 g1
    refine (c_r1U b r 4294967295 (by decide)).call (As := []) (C.hidL h1 g1) hr fun r1 m1 w2 hk hm1 p1 C => ⟨_, rfl, hk, fun w3 h3 => ?_⟩
    have hlt := uS_lt 4294967295 r.st (by decide)
    rw [w_u32 (by omega) (by omega)]
    have hy := hx.mono hm1
    exact Ctr.ret (m' := m1) (L := []) ({ x with fr := ((uS 4294967295 r.st).1 : Nat) }, r1) rfl ⟨⟨hy.p, hy.v, hy.mm, hy.e, hy.t, hy.pl, hy.vl, hy.ml, hy.el, hy.tl⟩, rfl, p1.1, p1.2⟩ (C.hid0 h3)
  rw [if_neg (by simpa using h97)]
  by_cases h107 : c = 107
  · subst h107
    rw [if_pos (by decide)]
    intro w1 L1 h1 g1
    refine (c_r1U b r 4294967295 (by decide)).call (As := []) (C.hidL h1 g1) hr fun r1 m1 w2 hk hm1 p1 C => ⟨_, rfl, hk, fun w3 h3 => ?_⟩
    have hlt := uS_lt 4294967295 r.st (by decide)
    rw [w_u32 (by omega) (by omega)]
    have hy := hx.mono hm1
    exact Ctr.ret (m' := m1) (L := []) ({ x with cm := ((uS 4294967295 r.st).1 : Nat) }, r1) rfl ⟨⟨hy.p, hy.v, hy.mm, hy.e, hy.t, hy.pl, hy.vl, hy.ml, hy.el, hy.tl⟩, rfl, p1.1, p1.2⟩ (C.hid0 h3)
  rw [if_neg (by simpa using h107)]
  by_cases h101 : c = 101
  · subst h101
    rw [if_pos (by decide)]
    intro w1 L1 h1 g1
    refine (c_r5GetAll b r).call (As := []) (C.hidL h1 g1) hr fun p m1 w2 hk hm1 p1 C => ⟨_, _, _, rfl, hk, fun w3 h3 => ?_⟩
    obtain ⟨eq, es, r1⟩ := p
    obtain ⟨eM, eE, eO, eS⟩ := p1
    have hel := es_len (m := m) (q := eq) eE
    have her : Mg.er { x with eq := eq, es := es } = (getL x.er 101 r.st).1 := by
      show ({ x.er with es := es.map En.er } : Mv) = { x.er with es := (evsS r.st).1 }
      rw [eE]
    have hy := hx.mono hm1
    exact Ctr.ret (m' := m1) (L := []) ({ x with eq := eq, es := es }, r1) rfl ⟨⟨hy.p, hy.v, hy.mm, eM, hy.t, hy.pl, hy.vl, hy.ml, hel, hy.tl⟩, her, eO, eS⟩ (C.hid0 h3)
  rw [if_neg (by simpa using h101)]
  by_cases h98 : c = 98
  · subst h98
    rw [if_pos (by decide)]
    intro w1 L1 h1 g1
    refine (c_r1U b r 18446744073709551615 (by decide)).call (As := []) (C.hidL h1 g1) hr fun r1 m1 w2 hk hm1 p1 C => ⟨_, rfl, hk, fun w3 h3 => ?_⟩
    have hy := hx.mono hm1
    exact Ctr.ret (m' := m1) (L := []) ({ x with ba := ((uS M64n r.st).1 : Nat) }, r1) rfl ⟨⟨hy.p, hy.v, hy.mm, hy.e, hy.t, hy.pl, hy.vl, hy.ml, hy.el, hy.tl⟩, rfl, p1.1, p1.2⟩ (C.hid0 h3)
  rw [if_neg (by simpa using h98)]
  by_cases h104 : c = 104
  · subst h104
    rw [if_pos (by decide)]
    intro w1 L1 h1 g1
    refine (c_r1B b r).call (As := []) (C.hidL h1 g1) hr fun r1 m1 w2 hk hm1 p1 C => ⟨_, rfl, hk, ?_⟩
    rw [b_one]
    have hy := hx.mono hm1
    by_cases hb : (bS r.st).1.toNat > 1
    · rw [if_pos (by simp only [decide_eq_true_eq]; omega)]
      have hF : flagS r.st = ((bS r.st).1 == 1, (r1.fail 6).st) := by
        rw [flagS]; simp only [if_pos hb]; rw [← p1.2, st_fail _ _ (by decide)]
      intro w4 L4 h4 g4
      refine (c_r1Fail b r1 6).call (As := []) (C.hidL h4 g4) trivial fun _ m2 w5 hk hm2 _ C => ⟨rfl, hk, fun w6 h6 => ?_⟩
      have hz := hy.mono hm2
      refine Ctr.ret (m' := m2) (L := []) ({ x with has := (bS r.st).1 == 1 }, r1.fail 6) rfl ⟨⟨hz.p, hz.v, hz.mm, hz.e, hz.t, hz.pl, hz.vl, hz.ml, hz.el, hz.tl⟩, ?_, fail_ok (p1.1.mono hm2) 6, ?_⟩ (C.hid0 h6)
      · show ({ x.er with has := (bS r.st).1 == 1 } : Mv) = { x.er with has := (flagS r.st).1 }
        rw [hF]
      · show _ = (flagS r.st).2
        rw [hF]
    · rw [if_neg (by simp only [decide_eq_true_eq]; omega)]
      have hF : flagS r.st = ((bS r.st).1 == 1, r1.st) := by
        rw [flagS]; simp only [if_neg hb]; rw [← p1.2]
      intro w6 h6
      refine Ctr.ret (m' := m1) (L := []) ({ x with has := (bS r.st).1 == 1 }, r1) rfl ⟨⟨hy.p, hy.v, hy.mm, hy.e, hy.t, hy.pl, hy.vl, hy.ml, hy.el, hy.tl⟩, ?_, p1.1, ?_⟩ (C.hid0 h6)
      · show ({ x.er with has := (bS r.st).1 == 1 } : Mv) = { x.er with has := (flagS r.st).1 }
        rw [hF]
      · show _ = (flagS r.st).2
        rw [hF]
  rw [if_neg (by simpa using h104)]
  by_cases h120 : c = 120
  · subst h120
    rw [if_pos (by decide)]
    intro w1 L1 h1 g1
    refine (c_r1U b r 18446744073709551615 (by decide)).call (As := []) (C.hidL h1 g1) hr fun r1 m1 w2 hk hm1 p1 C => ⟨_, rfl, hk, fun w3 h3 => ?_⟩
    have hy := hx.mono hm1
    exact Ctr.ret (m' := m1) (L := []) ({ x with ac := ((uS M64n r.st).1 : Nat) }, r1) rfl ⟨⟨hy.p, hy.v, hy.mm, hy.e, hy.t, hy.pl, hy.vl, hy.ml, hy.el, hy.tl⟩, rfl, p1.1, p1.2⟩ (C.hid0 h3)
  rw [if_neg (by simpa using h120)]
  by_cases h109 : c = 109
  · subst h109
    rw [if_pos (by decide)]
    intro w1 L1 h1 g1
    refine (c_r6GetProcs b r).call (As := []) (C.hidL h1 g1) hr fun p m1 w2 hk hm1 p1 C => ⟨_, _, _, rfl, hk, fun w3 L3 h3 g3 => ?_⟩
    refine (c_r5GetAll b p.2).call (As := []) (C.hidL h3 g3) p1.2.1 fun t m2 w4 hk hm2 p2 C => ⟨_, _, _, rfl, hk, fun w5 h5 => ?_⟩
    obtain ⟨tq, ts, r2⟩ := t
    obtain ⟨tM, tE, tO, tS⟩ := p2
    rw [p1.2.2] at tE tS
    have htl := es_len (m := m) (q := tq) tE
    have hy := (hx.mono hm1).mono hm2
    refine Ctr.ret (m' := m2) (L := []) ({ x with mq := p.1, ms := (prsS r.st).1, tq := tq, ts := ts }, r2) rfl ⟨⟨hy.p, hy.v, p1.1.mono hm2, hy.e, tM, hy.pl, hy.vl, Nat.le_trans (prsS_len r.st) (by decide), hy.el, htl⟩, ?_, tO, tS⟩ (C.hid0 h5)
    show ({ x.er with ms := (prsS r.st).1, ts := ts.map En.er } : Mv) = { x.er with ms := (prsS r.st).1, ts := (evsS (prsS r.st).2).1 }
    rw [tE]
  rw [if_neg (by simpa using h109)]
  by_cases h115 : c = 115
  · subst h115
    rw [if_pos (by decide)]
    intro w1 L1 h1 g1
    refine (c_r2GetProc b r).call (As := []) (C.hidL h1 g1) hr fun r1 m1 w2 hk hm1 p1 C => ⟨_, _, rfl, hk, fun w3 h3 => ?_⟩
    have hy := hx.mono hm1
    exact Ctr.ret (m' := m1) (L := []) ({ x with pn := ((procS r.st).1.1.toNat : Nat), pl := ((procS r.st).1.2 : Nat) }, r1) rfl ⟨⟨hy.p, hy.v, hy.mm, hy.e, hy.t, hy.pl, hy.vl, hy.ml, hy.el, hy.tl⟩, rfl, p1.1, p1.2⟩ (C.hid0 h3)
  rw [if_neg (by simpa using h115)]
  have hg : getL x.er c r.st = (x.er, r.st) := by
    rw [getL, if_neg h103, if_neg h105, if_neg h102, if_neg h112, if_neg h114, if_neg h118, if_neg h99, if_neg h110, if_neg h97, if_neg h107, if_neg h101, if_neg h98, if_neg h104, if_neg h120, if_neg h109, if_neg h115]
  exact fun w1 h1 => Ctr.ret (m' := m) (L := []) (x, r) rfl ⟨hx, by rw [hg], hr, by rw [hg]⟩ (C.hid0 h1)
theorem getL_kd (x : Mv) (c : Int) (s : St) : (getL x c s).1.kd = x.kd := by
  unfold getL
  by_cases h103 : c = 103
  · rw [if_pos h103]
  rw [if_neg h103]
  by_cases h105 : c = 105
  · rw [if_pos h105]
  rw [if_neg h105]
  by_cases h102 : c = 102
  · rw [if_pos h102]
  rw [if_neg h102]
  by_cases h112 : c = 112
  · rw [if_pos h112]
  rw [if_neg h112]
  by_cases h114 : c = 114
  · rw [if_pos h114]
  rw [if_neg h114]
  by_cases h118 : c = 118
  · rw [if_pos h118]
  rw [if_neg h118]
  by_cases h99 : c = 99
  · rw [if_pos h99]
  rw [if_neg h99]
  by_cases h110 : c = 110
  · rw [if_pos h110]
  rw [if_neg h110]
  by_cases h97 : c = 97
  · rw [if_pos h97]
  rw [if_neg h97]
  by_cases h107 : c = 107
  · rw [if_pos h107]
  rw [if_neg h107]
  by_cases h101 : c = 101
  · rw [if_pos h101]
  rw [if_neg h101]
  by_cases h98 : c = 98
  · rw [if_pos h98]
  rw [if_neg h98]
  by_cases h104 : c = 104
  · rw [if_pos h104]
  rw [if_neg h104]
  by_cases h120 : c = 120
  · rw [if_pos h120]
  rw [if_neg h120]
  by_cases h109 : c = 109
  · rw [if_pos h109]
  rw [if_neg h109]
  by_cases h115 : c = 115
  · rw [if_pos h115]
  rw [if_neg h115]
theorem fldS_nil {k : Int} (h : (fldS k).length = 0) : ¬ (0 ≤ k ∧ k ≤ 13) := by
  intro hk
  have : k = 0 ∨ k = 1 ∨ k = 2 ∨ k = 3 ∨ k = 4 ∨ k = 5 ∨ k = 6 ∨ k = 7 ∨ k = 8 ∨ k = 9 ∨ k = 10 ∨ k = 11 ∨ k = 12 ∨ k = 13 := by omega
  rcases this with rfl | rfl | rfl | rfl | rfl | rfl | rfl | rfl | rfl | rfl | rfl | rfl | rfl | rfl <;> exact absurd h (by decide)
theorem c_r7Read (q : Sl) (l : List UInt8) (hl : l.length ≤ 100000000) : Ctr Tryz.prog 11 #[slV q l.length] (fun m => bsM m q l) [] (fun p : Mg => .tuple #[.agg p.row.toArray, .int .i64 (rdS l).2]) (fun p m => MgM m p ∧ p.er = (rdS l).1) (fun _ => []) := by
  refine Ctr.mk fun w F m C hs => x_r7Read _ _ _ w _ ?_
  have zero : ∀ (m2 : Mem) (w2 : World) (e : Int), rdS l = (Mv.z 0, e) → Ctx F m w w2 [] m2 [] → ∃ (p : Mg) (m' : Mem) (L : List Nat), Ending.returned (.tuple #[.agg (Mg.z 0).row.toArray, .int .i64 e]) = .returned (.tuple #[.agg p.row.toArray, .int .i64 (rdS l).2]) ∧ (MgM m' p ∧ p.er = (rdS l).1) ∧ Ctx F m w w2 L m' [] := fun m2 w2 e h C => by
    rw [h]; exact ⟨Mg.z 0, m2, [], rfl, ⟨(mz_M m2 0).1, rfl⟩, C⟩
  by_cases hbig : l.length > 524288
  · rw [if_pos (by simp only [decide_eq_true_eq]; omega)]
    exact fun w110 h110 => zero m w110 5 (by rw [rdS, if_pos hbig]) (C.hid0 h110)
  rw [if_neg (by simp only [decide_eq_true_eq]; omega)]
  intro w1 L2 h1 g1
  obtain ⟨q2, c2, w6, ha, hk0, D⟩ := ow_app0 (ow_new (C.hidL h1 g1)) hs (by omega)
  refine ⟨q2, _, c2, w6, ha, hk0, ?_⟩
  have hcap := D.slCap.1
  obtain ⟨m1, hm1, hq, D⟩ := D.slShare
  have hst0 : ((⟨(q2, c2), l, 0⟩ : Rd1).st) = (l, 0) := st0 rfl
  have hok0 : (⟨(q2, c2), l, 0⟩ : Rd1).ok m1 := ⟨hq, hl, hcap⟩
  have D1 : Ctx F m w (w6.alloc (.cells #[slV (q2, c2) l.length, .int .i64 0] 102)) L2 m1 [r1A w6.heap.size ⟨(q2, c2), l, 0⟩] := D.alloc [slV (q2, c2) l.length, .int .i64 0] 102
  generalize w6.heap.size = b at D1 ⊢
  refine (c_r1B b ⟨(q2, c2), l, 0⟩).call (As := []) D1 hok0 fun r1 m2 w8 hk hm2 p2 C => ⟨_, rfl, hk, fun w10 L11 h10 g10 => ?_⟩
  rw [hst0] at p2 ⊢
  have hK := bS_lt (l, 0)
  generalize hK0 : (bS (l, 0)).1.toNat = K at hK ⊢
  refine (C.hidL h10 g10).gives (c_rFields (K : Int) ⟨by omega, by omega⟩) fun w13 k13 C => ⟨_, rfl, k13, r1.e, C.blkCell (j := 1) rfl, C.blkAt.2, ?_⟩
  have hS : rdS l = if r1.e ≠ 0 ∨ K > 13 then (Mv.z 0, 6) else rdE (msgG (K : Int) r1.st) := by
    rw [rdS, if_neg hbig, hK0, ← p2.2, st_e]
  have hsz : (toBA (fldS (K : Int))).size = (fldS (K : Int)).length := toBA_size _
  rw [emp_eq, hsz]
  by_cases hbad : r1.e ≠ 0 ∨ K > 13
  · have hc : ((r1.e != 0) || decide ((fldS (K : Int)).length = 0)) = true := by
      rcases hbad with h | h
      · simp [h]
      · rw [fldSo (by omega)]; simp
    rw [if_pos hc]
    exact fun w219 h219 => zero m2 w219 6 (by rw [hS, if_pos hbad]) (Ctx.pk (C.hid0 h219) [] [0] rfl)
  have hb2 : r1.e = 0 ∧ K ≤ 13 := by
    refine ⟨Decidable.not_not.1 fun h => hbad (.inl h), ?_⟩
    have : ¬ K > 13 := fun h => hbad (.inr h)
    omega
  have hc : ¬ ((r1.e != 0) || decide ((fldS (K : Int)).length = 0)) = true := by
    simp only [Bool.or_eq_true, bne_iff_ne, ne_eq, decide_eq_true_eq, not_or]
    exact ⟨fun h => h hb2.1, fun h => fldS_nil h ⟨by omega, by omega⟩⟩
  rw [if_neg hc]
  rw [if_neg hbad] at hS
  have hM : msgG (K : Int) r1.st = msgH (foldG (fldS (K : Int)) (Mv.z (K : Int)) r1.st) (K : Int) := rfl
  have hMin : ∀ (a : Mv × St), a = msgG (K : Int) r1.st → MvF a.1 := fun a h => by rw [h]; exact msgG_in _ ⟨by omega, by omega⟩ _
  have hFl := fldS_len (K : Int)
  generalize fldS (K : Int) = fl at hM hFl ⊢
  have tail : ∀ (x : Mg) (r' : Rd1) (m' : Mem) (w' : World) (L' : List Nat), MgM m' x → r'.ok m' → (x.er, r'.st) = msgG (K : Int) r1.st → Ctx F m w w' L' m' [r1A b r'] →
      (X.CallX Tryz.prog 41 #[(.pointer (some ⟨b, 0, none⟩))] w' fun e62 w63 => ∃ n64 : Int, (e62 = .returned (.int .i64 n64)) ∧ (X.Kept L' w' w63) ∧ (if (n64 != 0) = true then ∀ w70 : World, (X.Hid (L') w63 w70) → (∃ (p : Mg) (m' : Mem) (L : List Nat), Ending.returned (.tuple #[.agg (Mg.z 0).row.toArray, .int .i64 n64]) = .returned (.tuple #[.agg p.row.toArray, .int .i64 (rdS l).2]) ∧ (MgM m' p ∧ p.er = (rdS l).1) ∧ Ctx F m w w70 L m' []) else X.CallX Tryz.prog 30 #[(.agg x.row.toArray)] w63 fun e65 w66 => ∃ b67 : Bool, (e65 = .returned (.bool b67)) ∧ (X.Kept L' w63 w66) ∧ (if (!b67) = true then ∀ w69 : World, (X.Hid (L') w66 w69) → (∃ (p : Mg) (m' : Mem) (L : List Nat), Ending.returned (.tuple #[.agg (Mg.z 0).row.toArray, .int .i64 6]) = .returned (.tuple #[.agg p.row.toArray, .int .i64 (rdS l).2]) ∧ (MgM m' p ∧ p.er = (rdS l).1) ∧ Ctx F m w w69 L m' []) else ∀ w68 : World, (X.Hid (L') w66 w68) → (∃ (p : Mg) (m' : Mem) (L : List Nat), Ending.returned (.tuple #[.agg x.row.toArray, .int .i64 0]) = .returned (.tuple #[.agg p.row.toArray, .int .i64 (rdS l).2]) ∧ (MgM m' p ∧ p.er = (rdS l).1) ∧ Ctx F m w w68 L m' [])))) := fun x r' m' w' L' xM xO hG C => by
    have xI := hMin _ hG
    rw [← hG] at hS
    refine (c_r1End b r').call (As := []) C trivial fun _ m5 w19 hk hm5 _ C => ⟨_, rfl, hk, ?_⟩
    by_cases hend : endS r'.st = 0
    rotate_left
    · rw [if_pos (by simp [hend])]
      exact fun w108 h108 => zero m5 w108 (endS r'.st) (by rw [hS, rdE_err hend]) (Ctx.pk (C.hid0 h108) [] [0] rfl)
    rw [if_neg (by simp [hend])]
    refine (c_r7Right x xI.toMvIn).call (As := [_]) C (xM.mono hm5) fun _ m6 w63 hk hm6 _ C => ⟨_, rfl, hk, ?_⟩
    by_cases hrt : x.er.right = true
    rotate_left
    · rw [if_pos (by rw [Bool.eq_false_iff.2 hrt]; rfl)]
      exact fun w107 h107 => zero m6 w107 6 (by rw [hS, rdE_no hend hrt]) (Ctx.pk (C.hid0 h107) [] [0] rfl)
    rw [if_neg (by rw [hrt]; decide)]
    rw [rdE_ok hend hrt] at hS
    intro w106 h106
    rw [hS]
    exact ⟨x, m6, [], rfl, ⟨(xM.mono hm5).mono hm6, rfl⟩, Ctx.pk (C.hid0 h106) [] [0] rfl⟩
  refine ⟨fun i z0 z1 z2 z3 z4 z5 z6 z7 z8 z9 z10 z11 z12 z13 z14 z15 z16 z17 z18 z19 z20 z21 z22 z23 z24 z25 z26 z27 z28 z29 z30 z31 z32 z33 z34 z35 z36 z37 z38 z39 z40 w' L' => ∃ (j : Nat) (x : Mg) (r' : Rd1) (m' : Mem), i = j ∧ z0 = x.kd ∧ z1 = x.gr ∧ z2 = x.co ∧ z3 = x.nn ∧ z4 = x.fr ∧ z5 = x.cm ∧ z6 = x.fl ∧ z7 = x.ba ∧ z8 = x.ac ∧ z9 = x.id.n ∧ z10 = x.id.l ∧ z11 = x.id.s ∧ z12 = x.id.d ∧ z13 = x.id.g0 ∧ z14 = x.id.i0 ∧ z15 = x.id.g1 ∧ z16 = x.id.i1 ∧ z17 = x.id.g2 ∧ z18 = x.id.i2 ∧ z19 = x.pq.1 ∧ z20 = x.ps.length ∧ z21 = x.pq.2 ∧ z22 = x.rc ∧ z23 = x.rv ∧ z24 = x.vg ∧ z25 = x.vn ∧ z26 = x.vq.1 ∧ z27 = x.vm.length ∧ z28 = x.vq.2 ∧ z29 = x.pn ∧ z30 = x.pl ∧ z31 = x.has ∧ z32 = x.mq.1 ∧ z33 = x.ms.length ∧ z34 = x.mq.2 ∧ z35 = x.eq.1 ∧ z36 = x.es.length ∧ z37 = x.eq.2 ∧ z38 = x.tq.1 ∧ z39 = x.ts.length ∧ z40 = x.tq.2 ∧ j ≤ fl.length ∧ x.kd = (K : Int) ∧ MgM m' x ∧ r'.ok m' ∧ foldG (fl.drop j) x.er r'.st = foldG fl (Mv.z (K : Int)) r1.st ∧ Ctx F m w w' L' m' [r1A b r'], fun i _ _ _ _ _ _ _ _ _ _ _ _ _ _ _ _ _ _ _ _ _ _ _ _ _ _ _ _ _ _ _ _ _ _ _ _ _ _ _ _ _ _ => ((fl.length : Int) - i).toNat, ⟨0, Mg.z (K : Int), r1, m2, rfl, rfl, rfl, rfl, rfl, rfl, rfl, rfl, rfl, rfl, rfl, rfl, rfl, rfl, rfl, rfl, rfl, rfl, rfl, rfl, rfl, rfl, rfl, rfl, rfl, rfl, rfl, rfl, rfl, rfl, rfl, rfl, rfl, rfl, rfl, rfl, rfl, rfl, rfl, rfl, rfl, rfl, Nat.zero_le _, rfl, (mz_M m2 _).1, p2.1, rfl, C⟩, ?_⟩
  clear C
  rintro i z0 z1 z2 z3 z4 z5 z6 z7 z8 z9 z10 z11 z12 z13 z14 z15 z16 z17 z18 z19 z20 z21 z22 z23 z24 z25 z26 z27 z28 z29 z30 z31 z32 z33 z34 z35 z36 z37 z38 z39 z40 wz Lz _ ⟨j, x, r', m', rfl, rfl, rfl, rfl, rfl, rfl, rfl, rfl, rfl, rfl, rfl, rfl, rfl, rfl, rfl, rfl, rfl, rfl, rfl, rfl, rfl, rfl, rfl, rfl, rfl, rfl, rfl, rfl, rfl, rfl, rfl, rfl, rfl, rfl, rfl, rfl, rfl, rfl, rfl, rfl, rfl, rfl, hj, hkd, xM, xO, hG, C⟩
  by_cases hjl : j < fl.length
  · rw [if_pos (by simp only [decide_eq_true_eq]; omega)]
    refine ⟨[], facts_nil _ _, by omega, fl[j], by rw [Int.toNat_natCast]; show fl.toArray[j]? = _; simp [hjl], fun w172 L173 h172 g172 => ?_⟩
    rw [List.drop_eq_getElem_cons hjl, foldG] at hG
    generalize fl[j] = c at hG ⊢
    refine (c_r7get b r' x ((c.toNat : Nat) : Int)).call (As := []) (C.hidL h172 g172) ⟨xO, xM⟩ fun p m5 w175 hk hm5 p5 C => ⟨_, _, _, _, _, _, _, _, _, _, _, _, _, _, _, _, _, _, _, _, _, _, _, _, _, _, _, _, _, _, _, _, _, _, _, _, _, _, _, _, _, rfl, hk, fun w217 L218 h217 g217 => ⟨rfl, ?_, ?_⟩⟩
    · refine ⟨j + 1, p.1, p.2, m5, by rw [w_i64 (by omega) (by omega)]; omega, rfl, rfl, rfl, rfl, rfl, rfl, rfl, rfl, rfl, rfl, rfl, rfl, rfl, rfl, rfl, rfl, rfl, rfl, rfl, rfl, rfl, rfl, rfl, rfl, rfl, rfl, rfl, rfl, rfl, rfl, rfl, rfl, rfl, rfl, rfl, rfl, rfl, rfl, rfl, rfl, rfl, hjl, ?_, p5.1, p5.2.2.1, ?_, C.hidL h217 g217⟩
      · show p.1.er.kd = _
        rw [p5.2.1, getL_kd]; exact hkd
      · rw [p5.2.1, p5.2.2.2]; exact hG
    · exact Nat.le_of_eq (by show ((fl.length : Int) - IntKind.wrap .i64 ((j : Int) + 1)).toNat + 1 = ((fl.length : Int) - (j : Int)).toNat; rw [w_i64 (by omega) (by omega)]; omega)
  rw [if_neg (by simp only [decide_eq_true_eq]; omega)]
  have hd : fl.drop j = [] := List.drop_of_length_le (by omega)
  rw [hd, foldG] at hG
  rw [← hG] at hM
  by_cases h8 : (K : Int) = 8 ∧ x.has = true
  · rw [if_pos (by rw [hkd, h8.1, h8.2]; rfl)]
    replace hM : msgG (K : Int) r1.st = foldG [120, 109] x.er r'.st := hM.trans (if_pos h8)
    refine (c_r7get b r' x 120).call (As := []) C ⟨xO, xM⟩ fun p m5 w72 hk hm5 p5 C => ⟨_, _, _, _, _, _, _, _, _, _, _, _, _, _, _, _, _, _, _, _, _, _, _, _, _, _, _, _, _, _, _, _, _, _, _, _, _, _, _, _, _, rfl, hk, fun w114 L115 h114 g114 => ?_⟩
    refine (c_r7get b p.2 p.1 109).call (As := []) (C.hidL h114 g114) ⟨p5.2.2.1, p5.1⟩ fun t m6 w117 hk hm6 p6 C => ⟨_, _, _, _, _, _, _, _, _, _, _, _, _, _, _, _, _, _, _, _, _, _, _, _, _, _, _, _, _, _, _, _, _, _, _, _, _, _, _, _, _, rfl, hk, fun w159 L160 h159 g159 => ?_⟩
    refine tail t.1 t.2 m6 w159 L160 p6.1 p6.2.2.1 ?_ (C.hidL h159 g159)
    rw [hM, p6.2.1, p6.2.2.2, p5.2.1, p5.2.2.2]; rfl
  · rw [if_neg (by
      intro h
      rw [hkd] at h
      simp only [Bool.and_eq_true, beq_iff_eq] at h
      exact h8 h)]
    replace hM : msgG (K : Int) r1.st = (x.er, r'.st) := hM.trans (if_neg h8)
    exact tail x r' m' wz Lz xM xO hM.symm C
end Go.Proofs
namespace Go.Proofs
open Go X RowKit
theorem c_PartsC (q : Sl) (l : List Pt) (hl : l.length * 48 ≤ 140737488355328) : Ctr Tryz.prog 24 #[slV q l.length] (fun m => MSrc m 5 (slV q l.length) l.length (l.flatMap Pt.row)) [] (fun p : Sl => slV p l.length) (fun p m => MSrc m 5 (slV p l.length) l.length (l.flatMap Pt.row) ∧ l.length ≤ p.2) (fun _ => []) := by
  refine Ctr.mk fun w F m C hp => x_Parts _ _ _ w _ ?_
  refine ⟨fun p k c i w' _ => ∃ (j : Nat) (m' : Mem), i = j ∧ j = k ∧ j ≤ l.length ∧ m.le m' ∧ Ctx F m w w' [] m' [slA (.slice p j c) j ((l.take j).flatMap Pt.row) 138 5], fun _ _ _ i _ => (l.length - i).toNat, ⟨0, m, rfl, rfl, by omega, Mem.le_refl _, C.slNil⟩, ?_⟩
  clear C
  rintro p k c i w7 L8 _ ⟨j, m', rfl, rfl, hj, hm, D⟩
  by_cases hjl : j < l.length
  · rw [if_pos (by simpa using hjl)]
    refine ⟨by omega, by simpa using hjl, ?_⟩
    obtain ⟨a, ha, hc⟩ := (hp.mono hm).elem pt_len hjl
    have ha : q.1 = some a := ha
    rw [ha, onSome_some]
    refine ⟨_, _, _, _, _, D.cells hc, ?_⟩
    refine D.gives (c_Part l[j]) fun w16 k16 D => ⟨_, _, _, _, _, rfl, k16.size, ?_⟩
    have D1 := (D.alloc l[j].row 138).swap
    have hcl : Cells _ ⟨w16.heap.size, 0, none⟩ l[j].row := (D.alloc l[j].row 138).blkCells (o := 0) fun k v e => by simpa using e
    obtain ⟨q2, c2, w25, hr, hkk, D2⟩ := D1.app2 (P := Tryz.prog) (bytes := 48) (t := 52) (t2 := 52) 52 (by kernel_rfl) (.some ⟨w16.heap.size, 0, none⟩ 1 1 l[j].row rfl hcl) (by unfold maxLen; omega) (by omega) (pt_one _)
    have e : IntKind.wrap .i64 ((j : Int) + 1) = ((j + 1 : Nat) : Int) := by rw [w_i64 (by omega) (by omega)]; omega
    refine ⟨q2, j + 1, c2, w25, hr, hkk.size, ?_⟩
    rw [e]
    refine ⟨⟨j + 1, m', rfl, rfl, hjl, hm, ?_⟩, Nat.le_of_eq (by show ((l.length : Int) - ((j + 1 : Nat) : Int)).toNat + 1 = ((l.length : Int) - (j : Int)).toNat; omega)⟩
    have e2 : (l.take (j + 1)).flatMap Pt.row = (l.take j).flatMap Pt.row ++ l[j].row := by rw [List.take_succ_eq_append_getElem hjl, List.flatMap_append]; simp
    rw [e2]
    exact Ctx.noL (D2.pk [0] [1] rfl)
  · rw [if_neg (by simpa using hjl)]
    have hj2 : j = l.length := by omega
    subst hj2
    rw [List.take_length] at D
    have hcap := D.slCap.1
    obtain ⟨m2, hm2, hs, D2⟩ := D.slShare
    exact Ctr.ret (m' := m2) (L := []) (p, c) rfl ⟨hs, hcap⟩ D2.noL
theorem c_OwnWC (q : Sl) (l : List Wr) (hl : l.length * 40 ≤ 140737488355328) : Ctr Tryz.prog 123 #[slV q l.length] (fun m => MSrc m 3 (slV q l.length) l.length (l.flatMap Wr.row)) [] (fun p : Sl => slV p l.length) (fun p m => MSrc m 3 (slV p l.length) l.length (l.flatMap Wr.row) ∧ l.length ≤ p.2) (fun _ => []) := by
  refine Ctr.mk fun w F m C hp => x_OwnW _ _ _ w _ ?_
  refine ⟨fun p k c i w' _ => ∃ (j : Nat) (m' : Mem), i = j ∧ j = k ∧ j ≤ l.length ∧ m.le m' ∧ Ctx F m w w' [] m' [slA (.slice p j c) j ((l.take j).flatMap Wr.row) 214 3], fun _ _ _ i _ => (l.length - i).toNat, ⟨0, m, rfl, rfl, by omega, Mem.le_refl _, C.slNil⟩, ?_⟩
  clear C
  rintro p k c i w7 L8 _ ⟨j, m', rfl, rfl, hj, hm, D⟩
  by_cases hjl : j < l.length
  · rw [if_pos (by simpa using hjl)]
    obtain ⟨a, ha, hc⟩ := (hp.mono hm).elem wr_len hjl
    have ha : q.1 = some a := ha
    have hfw : ∀ {w' As}, Ctx F m w w' [] m' As → FactsW [((a.add (j * 3)).add 0, [.string l[j].key]), ((a.add (j * 3)).add 1, [.string l[j].val]), ((a.add (j * 3)).add 2, [.bool l[j].has])] w' [] := fun D =>
      D.memFact (mcells_part hc 0 _ (fun k v e => by match k, e with | 0, e => exact e)) (D.memFact (mcells_part hc 1 _ (fun k v e => by match k, e with | 0, e => exact e)) (D.memFact (mcells_part hc 2 _ (fun k v e => by match k, e with | 0, e => exact e)) (facts_nil _ _)))
    refine ⟨_, hfw D, by omega, by simpa using hjl, ?_⟩
    rw [ha, onSome_some]
    refine ⟨l[j].key, by rw [Int.toNat_natCast]; simp, by omega, by simpa using hjl, ?_⟩
    rw [onSome_some]
    refine ⟨l[j].val, by rw [Int.toNat_natCast]; simp, by omega, by simpa using hjl, ?_⟩
    rw [onSome_some]
    refine ⟨l[j].has, by rw [Int.toNat_natCast]; simp, fun w16 h16 => ?_⟩
    replace D := D.hid0 h16
    have D1 := (D.alloc l[j].row 214).swap
    have hcl : Cells _ ⟨w16.heap.size, 0, none⟩ l[j].row := (D.alloc l[j].row 214).blkCells (o := 0) fun k v e => by simpa using e
    obtain ⟨q2, c2, w25, hr, hkk, D2⟩ := D1.app2 (P := Tryz.prog) (bytes := 40) (t := 140) (t2 := 140) 140 (by kernel_rfl) (.some ⟨w16.heap.size, 0, none⟩ 1 1 l[j].row rfl hcl) (by unfold maxLen; omega) (by omega) (wr_one _)
    have e : IntKind.wrap .i64 ((j : Int) + 1) = ((j + 1 : Nat) : Int) := by rw [w_i64 (by omega) (by omega)]; omega
    refine ⟨hfw D1, q2, j + 1, c2, w25, hr, hkk.size, hfw D2, ?_⟩
    rw [e]
    refine ⟨⟨j + 1, m', rfl, rfl, hjl, hm, ?_⟩, Nat.le_of_eq (by show ((l.length : Int) - ((j + 1 : Nat) : Int)).toNat + 1 = ((l.length : Int) - (j : Int)).toNat; omega)⟩
    have e2 : (l.take (j + 1)).flatMap Wr.row = (l.take j).flatMap Wr.row ++ l[j].row := by rw [List.take_succ_eq_append_getElem hjl, List.flatMap_append]; simp
    rw [e2]
    exact Ctx.noL (D2.pk [0] [1] rfl)
  · rw [if_neg (by simpa using hjl)]
    have hj2 : j = l.length := by omega
    subst hj2
    rw [List.take_length] at D
    have hcap := D.slCap.1
    obtain ⟨m2, hm2, hs, D2⟩ := D.slShare
    exact Ctr.ret (m' := m2) (L := []) (p, c) rfl ⟨hs, hcap⟩ D2.noL
theorem c_ProcsC (q : Sl) (l : List Pr) (hl : l.length * 4 ≤ 140737488355328) : Ctr Tryz.prog 28 #[slV q l.length] (fun m => MSrc m 2 (slV q l.length) l.length (l.flatMap Pr.row)) [] (fun p : Sl => slV p l.length) (fun p m => MSrc m 2 (slV p l.length) l.length (l.flatMap Pr.row) ∧ l.length ≤ p.2) (fun _ => []) := by
  refine Ctr.mk fun w F m C hp => x_Procs _ _ _ w _ ?_
  refine ⟨fun p k c i w' _ => ∃ (j : Nat) (m' : Mem), i = j ∧ j = k ∧ j ≤ l.length ∧ m.le m' ∧ Ctx F m w w' [] m' [slA (.slice p j c) j ((l.take j).flatMap Pr.row) 47 2], fun _ _ _ i _ => (l.length - i).toNat, ⟨0, m, rfl, rfl, by omega, Mem.le_refl _, C.slNil⟩, ?_⟩
  clear C
  rintro p k c i w7 L8 _ ⟨j, m', rfl, rfl, hj, hm, D⟩
  by_cases hjl : j < l.length
  · rw [if_pos (by simpa using hjl)]
    refine ⟨by omega, by simpa using hjl, ?_⟩
    obtain ⟨a, ha, hc⟩ := (hp.mono hm).elem pr_len hjl
    have ha : q.1 = some a := ha
    rw [ha, onSome_some]
    refine ⟨_, _, D.cells hc, ?_⟩
    refine D.gives (c_ProcP l[j]) fun w16 k16 D => ⟨_, _, rfl, k16.size, ?_⟩
    have D1 := (D.alloc l[j].row 47).swap
    have hcl : Cells _ ⟨w16.heap.size, 0, none⟩ l[j].row := (D.alloc l[j].row 47).blkCells (o := 0) fun k v e => by simpa using e
    obtain ⟨q2, c2, w25, hr, hkk, D2⟩ := D1.app2 (P := Tryz.prog) (bytes := 4) (t := 54) (t2 := 54) 54 (by kernel_rfl) (.some ⟨w16.heap.size, 0, none⟩ 1 1 l[j].row rfl hcl) (by unfold maxLen; omega) (by omega) (pr_one _)
    have e : IntKind.wrap .i64 ((j : Int) + 1) = ((j + 1 : Nat) : Int) := by rw [w_i64 (by omega) (by omega)]; omega
    refine ⟨q2, j + 1, c2, w25, hr, hkk.size, ?_⟩
    rw [e]
    refine ⟨⟨j + 1, m', rfl, rfl, hjl, hm, ?_⟩, Nat.le_of_eq (by show ((l.length : Int) - ((j + 1 : Nat) : Int)).toNat + 1 = ((l.length : Int) - (j : Int)).toNat; omega)⟩
    have e2 : (l.take (j + 1)).flatMap Pr.row = (l.take j).flatMap Pr.row ++ l[j].row := by rw [List.take_succ_eq_append_getElem hjl, List.flatMap_append]; simp
    rw [e2]
    exact Ctx.noL (D2.pk [0] [1] rfl)
  · rw [if_neg (by simpa using hjl)]
    have hj2 : j = l.length := by omega
    subst hj2
    rw [List.take_length] at D
    have hcap := D.slCap.1
    obtain ⟨m2, hm2, hs, D2⟩ := D.slShare
    exact Ctr.ret (m' := m2) (L := []) (p, c) rfl ⟨hs, hcap⟩ D2.noL
theorem c_OwnEC (e : En) : Ctr Tryz.prog 70 #[.agg e.row.toArray] (fun m => EnM m e) [] (fun f : En => .agg f.row.toArray) (fun f m => EnM m f ∧ f.er = e.er ∧ EnC f) (fun _ => []) := by
  refine Ctr.mk fun w F m C he => x_OwnE _ _ _ _ _ _ _ _ _ _ _ _ _ _ _ _ _ _ _ _ _ _ w _ ⟨[], facts_nil _ _, fun w2 L3 h2 g2 => ?_⟩
  refine (C.hidL h2 g2).gives (c_ID e.id) fun w5 k5 C => ⟨_, _, _, _, _, _, _, _, _, _, rfl, k5, facts_nil _ _, ?_⟩
  refine (c_PartsC e.pq e.ps (by have := he.pl; omega)).call (As := []) C he.p fun p m1 w17 hk hm1 hp C => ⟨_, _, _, rfl, hk, facts_nil _ _, ?_⟩
  refine C.gives (c_Res e.rc e.rv) fun w22 k22 C => ⟨_, _, rfl, k22, facts_nil _ _, ?_⟩
  refine (c_OwnWC e.wq e.ws (by have := he.wl; omega)).call (As := []) C (he.w.mono hm1) fun q m2 w26 hk hm2 hq C => ⟨_, _, _, rfl, hk, facts_nil _ _, ?_⟩
  refine C.gives (c_Proc e.vn e.vl) fun w31 k31 C => ⟨_, _, rfl, k31, facts_nil _ _, fun w34 h34 => ?_⟩
  exact Ctr.ret (m' := m2) (L := []) { e with pq := p, wq := q } rfl ⟨⟨hp.1.mono hm2, hq.1, he.pl, he.wl⟩, rfl, hp.2, hq.2⟩ (C.hid0 h34)
theorem c_OwnsC (q : Sl) (l : List En) (hl : l.length ≤ 100000) : Ctr Tryz.prog 29 #[slV q l.length] (fun m => EsM m q l) [] (fun f : Sl × List En => slV f.1 f.2.length) (fun f m => EsC m f.1 f.2 ∧ f.2.map En.er = l.map En.er) (fun _ => []) := by
  refine Ctr.mk fun w F m C hp => x_Owns _ _ _ w _ ?_
  obtain ⟨hp, he⟩ := hp
  refine ⟨fun p k c i w' _ => ∃ (j : Nat) (m' : Mem) (fs : List En), i = j ∧ k = fs.length ∧ j ≤ l.length ∧ m.le m' ∧ fs.map En.er = (l.take j).map En.er ∧ (∀ e ∈ fs, EnM m' e ∧ EnC e) ∧ Ctx F m w w' [] m' [slA (.slice p fs.length c) fs.length (fs.flatMap En.row) 142 18], fun _ _ _ i _ => (l.length - i).toNat, ⟨0, m, [], rfl, rfl, by omega, Mem.le_refl _, rfl, by simp, C.slNil⟩, ?_⟩
  clear C
  rintro p k c i w7 L8 _ ⟨j, m', fs, rfl, rfl, hj, hm, her, hfs, D⟩
  by_cases hjl : j < l.length
  rotate_left
  · rw [if_neg (by simpa using hjl)]
    have hj2 : j = l.length := by omega
    rw [hj2, List.take_length] at her
    obtain ⟨m2, hm2, hs, D2⟩ := D.slShare
    exact Ctr.ret (m' := m2) (L := []) ((p, c), fs) rfl ⟨⟨⟨hs, fun e h => (hfs e h).1.mono hm2⟩, fun e h => (hfs e h).2⟩, her⟩ D2.noL
  rw [if_pos (by simpa using hjl)]
  refine ⟨by omega, by simpa using hjl, ?_⟩
  have hfl : fs.length = j := by have := congrArg List.length her; simp at this; omega
  obtain ⟨a, ha, hc⟩ := (hp.mono hm).elem en_len hjl
  have ha : q.1 = some a := ha
  rw [ha, onSome_some]
  refine ⟨_, _, _, _, _, _, _, _, _, _, _, _, _, _, _, _, _, _, _, _, _, _, by rw [Int.toNat_natCast]; exact D.cells hc, ?_⟩
  refine (c_OwnEC l[j]).call (As := [_]) D ((he _ (List.getElem_mem hjl)).mono hm) fun f m2 w33 hk hm2 hf D => ⟨_, _, _, _, _, _, _, _, _, _, _, _, _, _, _, _, _, _, _, _, _, _, rfl, hk.size, ?_⟩
  have D0 := (D.alloc f.row 142).swap
  have hcl : Cells _ ⟨w33.heap.size, 0, none⟩ f.row := (D.alloc f.row 142).blkCells (o := 0) fun k v e => by simpa using e
  obtain ⟨q2, c2, w67, hr, hkk, D2⟩ := Ctx.app2 (P := Tryz.prog) (bytes := 400) (t := 57) (t2 := 57) D0 57 (by kernel_rfl) (.some ⟨w33.heap.size, 0, none⟩ 1 1 f.row rfl hcl) (by unfold maxLen; omega) (by omega) (en_one _)
  have e1 : (fs ++ [f]).length = fs.length + 1 := by simp
  have e2 : (fs ++ [f]).flatMap En.row = fs.flatMap En.row ++ f.row := by simp
  have e : IntKind.wrap .i64 ((j : Int) + 1) = ((j + 1 : Nat) : Int) := by rw [w_i64 (by omega) (by omega)]; omega
  refine ⟨q2, _, c2, w67, hr, hkk.size, ?_⟩
  rw [e]
  refine ⟨⟨j + 1, m2, fs ++ [f], rfl, e1.symm, hjl, hm.le_trans hm2, ?_, ?_, ?_⟩, Nat.le_of_eq (by show ((l.length : Int) - ((j + 1 : Nat) : Int)).toNat + 1 = ((l.length : Int) - (j : Int)).toNat; omega)⟩
  · rw [List.take_succ_eq_append_getElem hjl, List.map_append, List.map_append, her]; simp [hf.2.1]
  · intro y hy
    rcases List.mem_append.1 hy with hy | hy
    · exact ⟨(hfs y hy).1.mono hm2, (hfs y hy).2⟩
    · simp only [List.mem_singleton] at hy; subst hy; exact ⟨hf.1, hf.2.2⟩
  · rw [← e2, ← e1] at D2
    exact Ctx.noL (D2.pk [0] [1] rfl)
theorem c_Own6C (v : Vw) (hl : v.ms.length ≤ 1000000) : Ctr Tryz.prog 26 #[.agg v.row.toArray] (fun m => VwM m v) [] (fun p : Sl => .agg (Vw.row { v with q := p }).toArray) (fun p m => VwM m { v with q := p } ∧ v.ms.length ≤ p.2) (fun _ => []) := by
  refine Ctr.mk fun w F m C hv => x_Own6 _ _ _ _ _ w _ ⟨[], facts_nil _ _, fun w2 L3 h2 g2 => ?_⟩
  refine (c_ProcsC v.q v.ms (by omega)).call (As := []) (C.hidL h2 g2) hv fun p m1 w5 hk hm1 hp C => ⟨_, _, _, rfl, hk, facts_nil _ _, fun w9 h9 => ?_⟩
  exact Ctr.ret (m' := m1) (L := []) p rfl hp (C.hid0 h9)
theorem c_OwnMC (x : Mg) : Ctr Tryz.prog 8 #[.agg x.row.toArray] (fun m => MgM m x) [] (fun y : Mg => .agg y.row.toArray) (fun y m => MgM m y ∧ y.er = x.er ∧ MgC y) (fun _ => []) := by
  refine Ctr.mk fun w F m C hx => x_OwnM _ _ _ _ _ _ _ _ _ _ _ _ _ _ _ _ _ _ _ _ _ _ _ _ _ _ _ _ _ _ _ _ _ _ _ _ _ _ _ _ _ w _ ⟨[], facts_nil _ _, fun w2 L3 h2 g2 => ?_⟩
  refine (C.hidL h2 g2).gives (c_ID x.id) fun w5 k5 C => ⟨_, _, _, _, _, _, _, _, _, _, rfl, k5, facts_nil _ _, ?_⟩
  refine (c_PartsC x.pq x.ps (by have := hx.pl; omega)).call (As := []) C hx.p fun p1 m1 w17 hk hm1 hp1 C => ⟨_, _, _, rfl, hk, facts_nil _ _, ?_⟩
  refine C.gives (c_Res x.rc x.rv) fun w22 k22 C => ⟨_, _, rfl, k22, facts_nil _ _, ?_⟩
  refine (c_Own6C ⟨x.vg, x.vn, x.vq, x.vm⟩ hx.vl).call (As := []) C (hx.mono hm1).v fun p2 m2 w26 hk hm2 hp2 C => ⟨_, _, _, _, _, rfl, hk, facts_nil _ _, ?_⟩
  refine C.gives (c_Proc x.pn x.pl) fun w33 k33 C => ⟨_, _, rfl, k33, facts_nil _ _, ?_⟩
  refine (c_ProcsC x.mq x.ms (by have := hx.ml; omega)).call (As := []) C ((hx.mono hm1).mono hm2).mm fun p3 m3 w37 hk hm3 hp3 C => ⟨_, _, _, rfl, hk, facts_nil _ _, ?_⟩
  refine (c_OwnsC x.eq x.es hx.el).call (As := []) C (((hx.mono hm1).mono hm2).mono hm3).e fun p4 m4 w42 hk hm4 hp4 C => ⟨_, _, _, rfl, hk, facts_nil _ _, ?_⟩
  refine (c_OwnsC x.tq x.ts hx.tl).call (As := []) C ((((hx.mono hm1).mono hm2).mono hm3).mono hm4).t fun p5 m5 w47 hk hm5 hp5 C => ⟨_, _, _, rfl, hk, facts_nil _ _, fun w51 h51 => ?_⟩
  refine Ctr.ret (m' := m5) (L := []) { x with pq := p1, vq := p2, mq := p3, eq := p4.1, es := p4.2, tq := p5.1, ts := p5.2 } rfl ⟨⟨(((hp1.1.mono hm2).mono hm3).mono hm4).mono hm5, ((hp2.1.mono hm3).mono hm4).mono hm5, (hp3.1.mono hm4).mono hm5, hp4.1.1.mono hm5, hp5.1.1, hx.pl, hx.vl, hx.ml, by have := lenEq hp4.2; have := hx.el; show p4.2.length ≤ _; omega, by have := lenEq hp5.2; have := hx.tl; show p5.2.length ≤ _; omega⟩, ?_, ⟨hp1.2, hp2.2, hp3.2, hp4.1.2, hp5.1.2⟩⟩ (C.hid0 h51)
  simp only [Mg.er, hp4.2, hp5.2]
theorem c_Ref6 (v : Vw) (hl : v.ms.length ≤ 1000000) : Ctr Tryz.prog 49 #[.agg v.row.toArray] (fun m => VwM m v) [] (fun p : Sl => .agg (Vw.row { v with q := p }).toArray) (fun p m => VwM m { v with q := p }) (fun _ => []) := by
  refine Ctr.mk fun w F m C hv => x_Ref6 _ _ _ _ _ w _ ⟨[], facts_nil _ _, fun w2 L3 h2 g2 => ?_⟩
  refine (c_RefProcs v.q v.ms (by omega)).call (As := []) (C.hidL h2 g2) hv fun p m1 w5 hk hm1 hp C => ⟨_, _, _, rfl, hk, facts_nil _ _, fun w9 h9 => ?_⟩
  exact Ctr.ret (m' := m1) (L := []) p rfl hp (C.hid0 h9)
theorem c_Ref7 (x : Mg) : Ctr Tryz.prog 14 #[.agg x.row.toArray] (fun m => MgM m x) [] (fun y : Mg => .agg y.row.toArray) (fun y m => MgM m y ∧ y.er = x.er) (fun _ => []) := by
  refine Ctr.mk fun w F m C hx => x_Ref7 _ _ _ _ _ _ _ _ _ _ _ _ _ _ _ _ _ _ _ _ _ _ _ _ _ _ _ _ _ _ _ _ _ _ _ _ _ _ _ _ _ w _ ⟨[], facts_nil _ _, fun w2 L3 h2 g2 => ?_⟩
  refine (C.hidL h2 g2).gives (c_RefID x.id) fun w5 k5 C => ⟨_, _, _, _, _, _, _, _, _, _, rfl, k5, facts_nil _ _, ?_⟩
  refine (c_RefParts x.pq x.ps (by have := hx.pl; omega)).call (As := []) C hx.p fun p1 m1 w17 hk hm1 hp1 C => ⟨_, _, _, rfl, hk, facts_nil _ _, ?_⟩
  refine C.gives (c_RefRes x.rc x.rv) fun w22 k22 C => ⟨_, _, rfl, k22, facts_nil _ _, ?_⟩
  refine (c_Ref6 ⟨x.vg, x.vn, x.vq, x.vm⟩ hx.vl).call (As := []) C (hx.mono hm1).v fun p2 m2 w26 hk hm2 hp2 C => ⟨_, _, _, _, _, rfl, hk, facts_nil _ _, ?_⟩
  refine C.gives (c_RefProc x.pn x.pl) fun w33 k33 C => ⟨_, _, rfl, k33, facts_nil _ _, ?_⟩
  refine (c_RefProcs x.mq x.ms (by have := hx.ml; omega)).call (As := []) C ((hx.mono hm1).mono hm2).mm fun p3 m3 w37 hk hm3 hp3 C => ⟨_, _, _, rfl, hk, facts_nil _ _, ?_⟩
  refine (c_Refs x.eq x.es hx.el).call (As := []) C (((hx.mono hm1).mono hm2).mono hm3).e fun p4 m4 w42 hk hm4 hp4 C => ⟨_, _, _, rfl, hk, facts_nil _ _, ?_⟩
  refine (c_Refs x.tq x.ts hx.tl).call (As := []) C ((((hx.mono hm1).mono hm2).mono hm3).mono hm4).t fun p5 m5 w47 hk hm5 hp5 C => ⟨_, _, _, rfl, hk, facts_nil _ _, fun w51 h51 => ?_⟩
  refine Ctr.ret (m' := m5) (L := []) { x with pq := p1, vq := p2, mq := p3, eq := p4.1, es := p4.2, tq := p5.1, ts := p5.2 } rfl ⟨⟨(((hp1.mono hm2).mono hm3).mono hm4).mono hm5, ((hp2.mono hm3).mono hm4).mono hm5, (hp3.mono hm4).mono hm5, hp4.1.mono hm5, hp5.1, hx.pl, hx.vl, hx.ml, by have := lenEq hp4.2; have := hx.el; show p4.2.length ≤ _; omega, by have := lenEq hp5.2; have := hx.tl; show p5.2.length ≤ _; omega⟩, ?_⟩ (C.hid0 h51)
  simp only [Mg.er, hp4.2, hp5.2]
theorem c_BytesR (x : Mg) (hi : MvF x.er) (hc : MgC x) (hl : x.er.right = true → (msgB x.er).length ≤ 1000000000) : Ctr Tryz.prog 7 #[.agg x.row.toArray] (fun m => MgM m x) [] (fun q : Sl => .tuple #[slV q (byS x.er).1.length, .int .i64 (byS x.er).2]) (fun _ _ => True) (fun q => [ow q (byS x.er).1]) := by
  refine Ctr.mk fun w F m C hs => x_Bytes _ _ _ _ _ _ _ _ _ _ _ _ _ _ _ _ _ _ _ _ _ _ _ _ _ _ _ _ _ _ _ _ _ _ _ _ _ _ _ _ _ w _ fun w1 L2 h1 g1 => ?_
  refine (c_mRight x hi.toMvIn).call (As := []) (C.hidL h1 g1) hs fun _ m1 w4 hk hm1 _ C => ⟨_, rfl, hk, ?_⟩
  replace hs := hs.mono hm1
  by_cases hr : x.er.right = true
  rotate_left
  · rw [byS, if_neg hr, Bool.eq_false_iff.2 hr, if_pos (by decide)]
    exact Ctr.ret (r := fun q : Sl => .tuple #[slV q 0, .int .i64 1]) (post := fun _ _ => True) (Bs := fun q : Sl => [ow q []]) (none, 0) rfl trivial C.slNil
  rw [byS, if_pos hr, hr, if_neg (by decide)]
  replace hl := hl hr
  simp only [msgB, List.length_append, List.length_singleton] at hl
  have D : Ctx F m w (w4.alloc (.cells #[.slice none 0 0] 79)) L2 m1 (wA w4.heap.size (none, 0) []) := Ctx.pm (C.alloc [.slice none 0 0] 79).slNil [1, 0] rfl
  refine ⟨[], facts_nil _ _, fun w7 L8 h7 g7 => ?_⟩
  refine (c_WBi w4.heap.size (none, 0) [] x.kd hi.kd (by decide)).call (As := []) (D.hidL h7 g7) trivial fun v2 m2 w10 hk hm2 _ C => ⟨rfl, hk, ?_⟩
  rw [List.nil_append] at C
  refine (c_Wmsg w4.heap.size v2 [u8 x.kd] x hi hc (by simp) (by simp only [List.length_singleton]; omega)).call (As := []) C (hs.mono hm2) fun v3 m3 w12 hk hm3 _ C => ⟨rfl, hk, ?_⟩
  refine (c_WBytes w4.heap.size v3 _ (by simp only [List.length_append, List.length_singleton]; omega)).call (As := []) C trivial fun q m4 w14 hk hm4 _ C => ⟨_, _, _, rfl, hk, ?_⟩
  exact Ctr.ret (r := fun q : Sl => .tuple #[slV q (msgB x.er).length, .int .i64 0]) (post := fun _ _ => True) (Bs := fun q : Sl => [ow q (msgB x.er)]) q rfl trivial (Ctx.pk C [0] [1, 2] rfl)
theorem c_r7BytesR (x : Mg) (hi : MvF x.er) (hl : x.er.right = true → (msgB x.er).length ≤ 10000000) : Ctr Tryz.prog 9 #[.agg x.row.toArray] (fun m => MgM m x) [] (fun q : Sl => .tuple #[slV q (byS x.er).1.length, .int .i64 (byS x.er).2]) (fun _ _ => True) (fun q => [ow q (byS x.er).1]) := by
  refine Ctr.mk fun w F m0 C hs => x_r7Bytes _ _ _ _ _ _ _ _ _ _ _ _ _ _ _ _ _ _ _ _ _ _ _ _ _ _ _ _ _ _ _ _ _ _ _ _ _ _ _ _ _ w _ fun w1 L2 h1 g1 => ?_
  refine (c_r7Right x hi.toMvIn).call (As := []) (C.hidL h1 g1) hs fun _ m1 w4 hk hm1 _ C => ⟨_, rfl, hk, ?_⟩
  replace hs := hs.mono hm1
  by_cases hr : x.er.right = true
  rotate_left
  · rw [byS, if_neg hr, Bool.eq_false_iff.2 hr, if_pos (by decide)]
    exact Ctr.ret (r := fun q : Sl => .tuple #[slV q 0, .int .i64 1]) (post := fun _ _ => True) (Bs := fun q : Sl => [ow q []]) (none, 0) rfl trivial C.slNil
  rw [byS, if_pos hr, hr, if_neg (by decide)]
  replace hl := hl hr
  have hfl := fld_letters x.er
  have hkd : 0 ≤ x.kd ∧ x.kd < 256 := hi.kd
  rw [u8V hkd]
  have hu : Value.int .u8 ((u8 x.kd).toNat : Int) = .int .u8 x.kd := (u8V hkd).symm
  refine (ow_lit [u8 x.kd] (by simp) C).gives (V := .string (toBA (letL x.kd x.has))) (by have := c_rLetters x hkd; rwa [Mg.row, ← hu] at this) fun w7 k7 C => ⟨_, rfl, k7, ?_⟩
  have hlx : (letL x.er.kd x.er.has) = letL x.kd x.has := rfl
  rw [hlx] at hfl
  have hres : msgB x.er = [u8 x.kd] ++ (letL x.kd x.has).flatMap (fun c => ltB x.er ((c.toNat : Nat) : Int)) := by rw [msgB, hfl]; rfl
  rw [hres] at hl ⊢
  have hll : (letL x.kd x.has).length ≤ 1000000 := by
    have := fldS_len x.kd
    unfold letL; split
    · rw [List.length_append]; simp only [List.length_cons, List.length_nil]; omega
    · omega
  generalize letL x.kd x.has = l at hl hll ⊢
  simp only [List.length_append, List.length_singleton] at hl
  have hsz : (toBA l).size = l.length := toBA_size l
  rw [hsz]
  refine ⟨fun q k c i w' L' => ∃ (j : Nat) (m' : Mem), i = j ∧ j ≤ l.length ∧ m1.le m' ∧ k = ([u8 x.kd] ++ (l.take j).flatMap (fun c => ltB x.er ((c.toNat : Nat) : Int))).length ∧ Ctx F m0 w w' L' m' [ow (q, c) ([u8 x.kd] ++ (l.take j).flatMap (fun c => ltB x.er ((c.toNat : Nat) : Int)))], fun _ _ _ i _ => ((l.length : Int) - i).toNat, ⟨0, m1, rfl, by omega, fun _ _ h => h, by rw [List.take_zero, List.flatMap_nil, List.append_nil]; rfl, by rw [List.take_zero, List.flatMap_nil, List.append_nil]; exact C⟩, ?_⟩
  clear C
  rintro qa ka ca i wa La _ ⟨j, m', rfl, hj, hmj, rfl, C⟩
  by_cases hjl : j < l.length
  rotate_left
  · rw [if_neg (by simp only [decide_eq_true_eq]; omega)]
    have : l.take j = l := List.take_of_length_le (by omega)
    rw [this] at C ⊢
    exact Ctr.ret (m' := m') (L := La) (qa, ca) rfl trivial C
  rw [if_pos (by simp only [decide_eq_true_eq]; omega)]
  have hle := flat_le (fun c => ltB x.er ((c.toNat : Nat) : Int)) hjl
  refine ⟨[], facts_nil _ _, by omega, l[j], by rw [Int.toNat_natCast]; simp [toBA, hjl], fun wb Lb hb gb => ?_⟩
  have hput := c_r7put x ((l[j].toNat : Nat) : Int) hi (by omega)
  rw [Mg.row, ← hu] at hput
  refine hput.call (As := [_]) (C.hidL hb gb) (hs.mono hmj) fun q2 m2 w16 hk hm2 _ C => ⟨_, _, _, rfl, hk, ?_⟩
  obtain ⟨q4, c4, w23, hr, hk4, C⟩ := ow_two (Ctx.swap C) (by simp only [List.length_append, List.length_singleton]; omega)
  refine ⟨q4, _, c4, w23, hr, hk4, facts_nil _ _, rfl, ⟨j + 1, m2, by rw [w_i64 (by omega) (by omega)]; omega, by omega, fun a v h => hm2 a v (hmj a v h), ?_, ?_⟩, ?_⟩
  · rw [flat_snoc (fun c => ltB x.er ((c.toNat : Nat) : Int)) hjl, ← List.append_assoc]
  · rw [flat_snoc (fun c => ltB x.er ((c.toNat : Nat) : Int)) hjl, ← List.append_assoc]; exact C
  · exact Nat.le_of_eq (by show ((l.length : Int) - IntKind.wrap .i64 ((j : Int) + 1)).toNat + 1 = ((l.length : Int) - (j : Int)).toNat; rw [w_i64 (by omega) (by omega)]; omega)
end Go.Proofs
namespace Go.Proofs
open Go X RowKit
theorem rightL_sizes {l : List Pt} (h : rightL l = true) : l.length ≤ 4 ∧ ∀ p ∈ l, p.key.size ≤ 16 ∧ p.val.size ≤ 64 := by
  simp only [rightL, Bool.and_eq_true, decide_eq_true_eq, List.all_eq_true] at h
  refine ⟨h.1.2, fun p hp => ?_⟩
  have hr := h.2 p hp
  simp only [Pt.right, Bool.and_eq_true, decide_eq_true_eq] at hr
  refine ⟨by omega, ?_⟩
  have hf := hr.2
  unfold Pt.fits at hf
  repeat' split at hf
  all_goals first
    | (simp only [Bool.and_eq_true, decide_eq_true_eq] at hf; omega)
    | simp at hf
theorem size_toL {a b : ByteArray} (h : a.toList = b.toList) : a.size = b.size := by
  rw [toL_data, toL_data] at h
  have := congrArg List.length h
  rw [data_len, data_len] at this; exact this
end Go.Proofs
