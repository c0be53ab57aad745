import Derived.Test.YtpijekgiblcfhaaU14r
set_option linter.unusedVariables false
set_option linter.unusedSimpArgs false
set_option maxRecDepth 10000
namespace Go.Proofs
open Go X RowKit
def doAll (t : Tb) (l : List Ac) : Tb := l.foldl (fun t a => (doF t a).2) t
def playAll (r : Rt) (l : List Ac) : Rt := l.foldl playR r
theorem doAll_succ (t : Tb) (l : List Ac) (i : Nat) (h : i < l.length) : doAll t (l.take (i + 1)) = (doF (doAll t (l.take i)) l[i]).2 := by
  rw [doAll, List.take_succ_eq_append_getElem h, List.foldl_append]; rfl
theorem playAll_succ (r : Rt) (l : List Ac) (i : Nat) (h : i < l.length) : playAll r (l.take (i + 1)) = playR (playAll r (l.take i)) l[i] := by
  rw [playAll, List.take_succ_eq_append_getElem h, List.foldl_append]; rfl
theorem Rel.all : ∀ {l : List Ac} {t : Tb} {r : Rt} (n : Nat), (∀ x ∈ l, x.d.In) → Rel t r → r.L.length ≤ n → r.F.length ≤ n → Rel (doAll t l) (playAll r l) ∧ (playAll r l).L.length ≤ n + l.length ∧ (playAll r l).F.length ≤ n + l.length
  | [], t, r, n, _, h, h1, h2 => ⟨h, h1, h2⟩
  | a :: l, t, r, n, hl, h, h1, h2 => by
    obtain ⟨g, g1, g2⟩ := h.act a (hl a List.mem_cons_self)
    have := Rel.all (n + 1) (fun x hx => hl x (List.mem_cons_of_mem _ hx)) g (by omega) (by omega)
    simp only [doAll, playAll, List.foldl_cons, List.length_cons] at this ⊢
    exact ⟨this.1, by omega, by omega⟩
theorem l_AmoApart (w : World) (a : Int) (q q' : Option Addr) (c c' : Nat) (l l' : List Ac) (hl : ∀ x ∈ l, x.d.In) (hl' : ∀ x ∈ l', x.d.In)
    (hs : MSrc (memOf w) 14 (.slice q l.length c) l.length (l.flatMap Ac.row)) (hs' : MSrc (memOf w) 14 (.slice q' l'.length c') l'.length (l'.flatMap Ac.row)) :
    Calls Try.prog 4 #[.int .i64 a, .slice q l.length c, .slice q' l'.length c'] w (LawR w) := by
  refine x_gemotlaw14_AmoApart _ _ _ _ _ _ _ w _ ?_
  have C := lawStart w
  refine (c_light l q c).call C hs fun v m1 w2 hk hm1 _ C => ⟨_, rfl, hk.size, ?_⟩
  obtain ⟨v, hv⟩ := v
  cases v with
  | false =>
    rw [if_neg (by simp)]
    refine c_knows.call (As := []) C trivial fun _ m2 w5 hk hm _ C => ⟨true, rfl, hk.size, rfl, C.at_⟩
  | true =>
  rw [if_pos (by simp)]
  refine (c_light l' q' c').call (As := []) C (hs'.mono hm1) fun v' m2 w8 hk hm2 _ C => ⟨_, rfl, hk.size, ?_⟩
  obtain ⟨v', hv'⟩ := v'
  cases v' with
  | false =>
    rw [if_neg (by simp)]
    refine c_knows.call (As := []) C trivial fun _ m2 w5 hk hm _ C => ⟨true, rfl, hk.size, rfl, C.at_⟩
  | true =>
  rw [if_pos (by simp)]
  have h100 := hv rfl
  have h100' := hv' rfl
  refine c_knows.call (As := []) C trivial fun _ m3 w14 hk hm3 _ C => ⟨true, rfl, hk.size, ?_⟩
  rw [if_neg (by simp)]
  refine (c_New a).call (As := []) C trivial fun b1 m4 w17 hk hm4 _ C => ⟨_, rfl, hk.size, ?_⟩
  refine (c_New a).call (As := [tbA b1 (tb0 a)]) C trivial fun b2 m5 w20 hk hm5 _ C => ⟨_, rfl, hk.size, ?_⟩
  have hmm := (((hm1.le_trans hm2).le_trans hm3).le_trans hm4).le_trans hm5
  replace hs := hs.mono hmm
  replace hs' := hs'.mono hmm
  clear hmm hm1 hm2 hm3 hm4 hm5 hk hv hv'
  -- the relations
  have hrel : ∀ i, Rel (doAll (tb0 a) (l.take i)) (playAll (r0 a) (l.take i)) ∧ (playAll (r0 a) (l.take i)).Ok ∧ (playAll (r0 a) (l.take i)).F.length < 100000 := fun i => by
    obtain ⟨h1, h2, h3⟩ := Rel.all (l := l.take i) 0 (fun x hx => hl x (List.mem_of_mem_take hx)) (rel0 a) (by simp [r0]) (by simp [r0])
    have : (l.take i).length ≤ 100 := by rw [List.length_take]; omega
    exact ⟨h1, h1.ok 100 (by omega) (by omega) (by omega), by omega⟩
  have hrel' : ∀ i, Rel (doAll (doAll (tb0 a) l) (l'.take i)) (playAll (playAll (r0 a) l) (l'.take i)) ∧ (playAll (playAll (r0 a) l) (l'.take i)).Ok ∧ (playAll (playAll (r0 a) l) (l'.take i)).F.length < 100000 := fun i => by
    obtain ⟨h1, h2, h3⟩ := Rel.all (l := l) 0 hl (rel0 a) (by simp [r0]) (by simp [r0])
    obtain ⟨g1, g2, g3⟩ := Rel.all (l := l'.take i) l.length (fun x hx => hl' x (List.mem_of_mem_take hx)) h1 (by omega) (by omega)
    have : (l'.take i).length ≤ 100 := by rw [List.length_take]; omega
    exact ⟨g1, g1.ok 200 (by omega) (by omega) (by omega), by omega⟩
  have hw : ∀ {i n : Nat}, i < n → n ≤ 100 → IntKind.wrap .i64 ((i : Int) + 1) = ((i + 1 : Nat) : Int) := fun h1 h2 => by rw [w_i64 (by omega) (by omega)]; omega
  have hms : ∀ {i n : Nat}, i < n → Nat.le (((n : Int) - ((i + 1 : Nat) : Int)).toNat + 1) ((n : Int) - (i : Int)).toNat := fun h => Nat.le_of_eq (by omega)
  refine ⟨fun n w' _ => ∃ (i : Nat) (m : Mem), n = i ∧ i ≤ l.length ∧ m5.le m ∧ Ctx [] (memOf w) w w' [] m [tbA b1 (doAll (tb0 a) (l.take i)), tbA b2 (doAll (tb0 a) (l.take i))], fun n _ => (l.length - n).toNat,
    ⟨0, m5, rfl, by omega, Mem.le_refl _, C.swap⟩, ?_⟩
  clear C
  rintro n w25 L26 _ ⟨i, m, rfl, hi, hmm, C⟩
  by_cases hlt : i < l.length
  · rw [if_pos (by simpa using hlt)]
    refine ⟨by omega, by simpa using hlt, ?_⟩
    obtain ⟨pa, rfl, hcell⟩ := (hs.mono hmm).elem ac_len hlt
    rw [onSome_some]
    have hd := hl _ (List.getElem_mem hlt)
    refine ⟨_, _, _, _, _, _, _, _, _, _, _, _, _, _, C.cells hcell, ?_⟩
    refine (c_do b1 _ l[i].kd l[i].d hd l[i].c l[i].v l[i].nn).call (As := [_]) C trivial fun _ m6 w154 hk hm6 _ C => ⟨_, rfl, hk.size, by omega, by simpa using hlt, ?_⟩
    rw [onSome_some]
    refine ⟨_, _, _, _, _, _, _, _, _, _, _, _, _, _, C.cells (hcell.mono hm6), ?_⟩
    refine (c_do b2 _ l[i].kd l[i].d hd l[i].c l[i].v l[i].nn).call (As := [_]) C.swap trivial fun _ m7 w172 hk hm7 _ C => ⟨_, rfl, hk.size, ?_⟩
    rw [hw hlt h100]
    refine ⟨⟨i + 1, m7, rfl, hlt, (hmm.le_trans hm6).le_trans hm7, ?_⟩, hms hlt⟩
    rw [doAll_succ _ _ _ hlt]
    exact C.swap
  rw [if_neg (by simpa using hlt)]
  have hil : i = l.length := by omega
  rw [hil, List.take_length] at C
  have hrl := hrel l.length
  rw [List.take_length] at hrl
  clear hil hlt hi
  generalize hT : doAll (tb0 a) l = T at C hrl hrel'
  have hself := sameT_self hrl.1
  refine (c_Clone b1 T).call (As := [tbA b2 T]) C trivial fun b3 m6 w28 hk hm6 _ C => ⟨_, rfl, hk.size, ?_⟩
  refine (c_Same b3 b1 T T).call (As := [tbA b2 T]) (C.pm [1, 0, 2] rfl) trivial fun _ m7 w31 hk hm7 _ C => ⟨_, rfl, hk.size, ?_⟩
  change (decide (T.win = T.win) && eqMap T.R T.R && eqMap T.Fl T.Fl) = true at hself
  rw [hself, if_pos (by decide)]
  refine (c_Same b1 b2 T T).call (As := [tbA b3 T]) (C.pm [1, 2, 0] rfl) trivial fun _ m8 w34 hk hm8 _ C => ⟨_, rfl, hk.size, ?_⟩
  rw [hself, if_pos (by decide)]
  refine (c_Same b2 b3 T T).call (As := [tbA b1 T]) (C.pm [1, 2, 0] rfl) trivial fun _ m9 w37 hk hm9 _ C => ⟨_, rfl, hk.size, ?_⟩
  rw [hself, if_neg (by decide)]
  have hm59 := (((hmm.le_trans hm6).le_trans hm7).le_trans hm8).le_trans hm9
  replace hs := hs.mono hm59
  replace hs' := hs'.mono hm59
  clear hm59 hm6 hm7 hm8 hm9 hmm hk
  refine ⟨fun n w' _ => ∃ (i : Nat) (m : Mem), n = i ∧ i ≤ l'.length ∧ m9.le m ∧ Ctx [] (memOf w) w w' [] m [tbA b1 (doAll T (l'.take i)), tbA b3 T, tbA b2 T], fun n _ => (l'.length - n).toNat,
    ⟨0, m9, rfl, by omega, Mem.le_refl _, (C.pm [2, 1, 0] rfl).noL⟩, ?_⟩
  clear C
  rintro n w42 L43 _ ⟨i, m, rfl, hi, hmm, C⟩
  by_cases hlt : i < l'.length
  · rw [if_pos (by simpa using hlt)]
    refine ⟨by omega, by simpa using hlt, ?_⟩
    obtain ⟨pa, rfl, hcell⟩ := (hs'.mono hmm).elem ac_len hlt
    rw [onSome_some]
    have hd := hl' _ (List.getElem_mem hlt)
    refine ⟨_, _, _, _, _, _, _, _, _, _, _, _, _, _, C.cells hcell, ?_⟩
    refine (c_do b1 _ l'[i].kd l'[i].d hd l'[i].c l'[i].v l'[i].nn).call (As := [_, _]) C trivial fun _ m6 w154 hk hm6 _ C => ⟨_, rfl, hk.size, ?_⟩
    rw [hw hlt h100']
    refine ⟨⟨i + 1, m6, rfl, hlt, hmm.le_trans hm6, ?_⟩, hms hlt⟩
    rw [doAll_succ _ _ _ hlt]
    exact C
  rw [if_neg (by simpa using hlt)]
  have hil : i = l'.length := by omega
  rw [hil, List.take_length] at C
  clear hil hlt hi
  refine (c_rNew a).call (As := [_, _, _]) C trivial fun d1 m6 w45 hk hm6 _ C => ⟨_, rfl, hk.size, ?_⟩
  refine (c_rNew a).call (As := [_, _, _, _]) C trivial fun d2 m7 w48 hk hm7 _ C => ⟨_, rfl, hk.size, ?_⟩
  have hm97 := (hmm.le_trans hm6).le_trans hm7
  replace hs := hs.mono hm97
  replace hs' := hs'.mono hm97
  clear hm97 hm6 hm7 hmm hk
  change Ctx [] (memOf w) w w48 _ m7 [rtA d2 (r0 a), rtA d1 (r0 a), tbA b1 (doAll T l'), tbA b3 T, tbA b2 T] at C
  refine ⟨fun n w' _ => ∃ (i : Nat) (m : Mem), n = i ∧ i ≤ l.length ∧ m7.le m ∧ Ctx [] (memOf w) w w' [] m [rtA d2 (playAll (r0 a) (l.take i)), rtA d1 (playAll (r0 a) (l.take i)), tbA b1 (doAll T l'), tbA b3 T, tbA b2 T], fun n _ => (l.length - n).toNat,
    ⟨0, m7, rfl, by omega, Mem.le_refl _, C.noL⟩, ?_⟩
  clear C
  rintro n w53 L54 _ ⟨i, m, rfl, hi, hmm, C⟩
  by_cases hlt : i < l.length
  · rw [if_pos (by simpa using hlt)]
    refine ⟨by omega, by simpa using hlt, ?_⟩
    obtain ⟨pa, rfl, hcell⟩ := (hs.mono hmm).elem ac_len hlt
    rw [onSome_some]
    have hd := hl _ (List.getElem_mem hlt)
    obtain ⟨_, hok, hfl⟩ := hrel i
    refine ⟨_, _, _, _, _, _, _, _, _, _, _, _, _, _, C.cells hcell, ?_⟩
    refine (c_play d1 _ l[i].kd l[i].d l[i].c l[i].v l[i].nn hd hok hfl).call (As := [_, _, _, _]) (C.pm [1, 0, 2, 3, 4] rfl) trivial fun _ m8 w102 hk hm8 _ C => ⟨rfl, hk.size, by omega, by simpa using hlt, ?_⟩
    rw [onSome_some]
    refine ⟨_, _, _, _, _, _, _, _, _, _, _, _, _, _, C.cells (hcell.mono hm8), ?_⟩
    refine (c_play d2 _ l[i].kd l[i].d l[i].c l[i].v l[i].nn hd hok hfl).call (As := [_, _, _, _]) (C.pm [1, 0, 2, 3, 4] rfl) trivial fun _ m9 w119 hk hm9 _ C => ⟨rfl, hk.size, ?_⟩
    rw [hw hlt h100]
    refine ⟨⟨i + 1, m9, rfl, hlt, (hmm.le_trans hm8).le_trans hm9, ?_⟩, hms hlt⟩
    rw [playAll_succ _ _ _ hlt]
    exact C
  rw [if_neg (by simpa using hlt)]
  have hil : i = l.length := by omega
  rw [hil, List.take_length] at C
  clear hil hlt hi
  replace hs' := hs'.mono hmm
  generalize hR : playAll (r0 a) l = R at C hrl hrel'
  refine ⟨fun n w' _ => ∃ (i : Nat) (m' : Mem), n = i ∧ i ≤ l'.length ∧ m.le m' ∧ Ctx [] (memOf w) w w' [] m' [rtA d2 (playAll R (l'.take i)), rtA d1 R, tbA b1 (doAll T l'), tbA b3 T, tbA b2 T], fun n _ => (l'.length - n).toNat,
    ⟨0, m, rfl, by omega, Mem.le_refl _, C.noL⟩, ?_⟩
  clear C hmm
  rintro n w58 L59 _ ⟨i, m', rfl, hi, hmm, C⟩
  by_cases hlt : i < l'.length
  · rw [if_pos (by simpa using hlt)]
    refine ⟨by omega, by simpa using hlt, ?_⟩
    obtain ⟨pa, rfl, hcell⟩ := (hs'.mono hmm).elem ac_len hlt
    rw [onSome_some]
    have hd := hl' _ (List.getElem_mem hlt)
    obtain ⟨_, hok, hfl⟩ := hrel' i
    refine ⟨_, _, _, _, _, _, _, _, _, _, _, _, _, _, C.cells hcell, ?_⟩
    refine (c_play d2 _ l'[i].kd l'[i].d l'[i].c l'[i].v l'[i].nn hd hok hfl).call (As := [_, _, _, _]) C trivial fun _ m8 w85 hk hm8 _ C => ⟨rfl, hk.size, ?_⟩
    rw [hw hlt h100']
    refine ⟨⟨i + 1, m8, rfl, hlt, hmm.le_trans hm8, ?_⟩, hms hlt⟩
    rw [playAll_succ _ _ _ hlt]
    exact C
  rw [if_neg (by simpa using hlt)]
  have hil : i = l'.length := by omega
  rw [hil, List.take_length] at C
  clear hil hlt hi
  have hrl' := hrel' l'.length
  rw [List.take_length] at hrl'
  refine (c_Same b3 b2 T T).call (As := [_, _, _]) (C.pm [3, 4, 0, 1, 2] rfl) trivial fun _ m8 w61 hk hm8 _ C => ⟨_, rfl, hk.size, ?_⟩
  rw [hself, if_pos (by decide)]
  refine (c_Same b1 b2 (doAll T l') T).call (As := [_, _, _]) (C.pm [4, 1, 0, 2, 3] rfl) trivial fun _ m9 w64 hk hm9 _ C => ⟨_, rfl, hk.size, ?_⟩
  refine (c_rSame d1 d2 R (playAll R l') hrl.2.1 hrl'.2.1).call (As := [_, _, _]) (C.pm [4, 3, 0, 1, 2] rfl) trivial fun _ m10 w67 hk hm10 _ C => ⟨_, rfl, hk.size, ?_⟩
  have e : (decide ((doAll T l').win = T.win) && eqMap (doAll T l').R T.R && eqMap (doAll T l').Fl T.Fl) = sameR R (playAll R l') := by
    rw [← same_same hrl.1 hrl'.1, ← sameT_comm hrl'.1 hrl.1]; rfl
  rw [e]
  exact ⟨by simp, C.at_⟩
end Go.Proofs
