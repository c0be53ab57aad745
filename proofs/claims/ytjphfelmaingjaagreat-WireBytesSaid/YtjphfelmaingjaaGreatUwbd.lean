import Derived.Test.YtjphfelmaingjaaGreatUwbc
import Derived.Test.YtjphfelmaingjaaGreatVwbc
import Derived.Laws.IdiomStrings
set_option linter.unusedVariables false
set_option linter.unusedSimpArgs false
set_option maxHeartbeats 1000000
set_option maxRecDepth 10000
namespace Go.Proofs
open Go X RowKit
structure MvF (x : Mv) : Prop extends MvIn x where
  co : 0 ≤ x.co ∧ x.co < 256
  cm : 0 ≤ x.cm ∧ x.cm < 4294967296
  fl : 0 ≤ x.fl ∧ x.fl < 4294967296
  ac : 0 ≤ x.ac ∧ x.ac < 18446744073709551616
  rc : 0 ≤ x.rc ∧ x.rc < 256
  vg : 0 ≤ x.vg ∧ x.vg < 256
  vn32 : x.vn < 4294967296
  nn32 : x.nn < 4294967296
  vmW : ∀ p ∈ x.vm, PrW p
  msW : ∀ p ∈ x.ms, PrW p
  pn : 0 ≤ x.pn ∧ x.pn < 256
  pl : 0 ≤ x.pl ∧ x.pl < 65536
structure MgC (x : Mg) : Prop where
  p : x.ps.length ≤ x.pq.2
  v : x.vm.length ≤ x.vq.2
  m : x.ms.length ≤ x.mq.2
  es : ∀ e ∈ x.es, EnC e
  ts : ∀ e ∈ x.ts, EnC e
def rndB (gr nn ba : Int) : List UInt8 := [u8 gr] ++ putU nn.toNat ++ putU ba.toNat
def valB (ms : List Pr) (ts : List Ev) : List UInt8 := listB prB ms ++ evsB ts
def fldB (x : Mv) : List UInt8 :=
  if x.kd = 0 then [u8 x.gr] ++ idB x.id ++ putU x.fl.toNat ++ listB ptB x.ps
  else if x.kd = 1 then idB x.id ++ resB x.rc x.rv ++ vwB x.vg x.vn x.vm
  else if x.kd = 2 then idB x.id ++ [u8 x.co]
  else if x.kd = 3 then [u8 x.gr] ++ putU x.nn.toNat ++ putU x.fr.toNat ++ putU x.cm.toNat ++ evsB x.es
  else if x.kd = 4 then [u8 x.gr] ++ putU x.nn.toNat ++ putU x.fr.toNat
  else if x.kd = 5 ∨ x.kd = 6 ∨ x.kd = 7 then rndB x.gr x.nn x.ba
  else if x.kd = 8 then rndB x.gr x.nn x.ba ++ evsB x.es ++ [flagB x.has] ++ (if x.has = true then putU x.ac.toNat ++ valB x.ms x.ts else [])
  else if x.kd = 9 then rndB x.gr x.nn x.ba ++ valB x.ms x.ts
  else if x.kd = 10 then vwB x.vg x.vn x.vm ++ evsB x.es
  else if x.kd = 11 ∨ x.kd = 12 ∨ x.kd = 13 then [u8 x.gr] ++ putP x.pn x.pl
  else []
theorem lt64 {a : Int} (h : a < 4294967296) : a < 18446744073709551616 := by omega
theorem c_WUd (b : Nat) (v : Sl) (bs : List UInt8) (n : Int) (hn : 0 ≤ n ∧ n < 18446744073709551616) (hl : bs.length ≤ 1000000000) : Ctr Tryz.prog 60 #[.pointer (some ⟨b, 0, none⟩), .int .u64 n] noMem (wA b v bs) (fun _ : Sl => .tuple #[]) (fun _ _ => True) (fun v' => wA b v' (bs ++ putU n.toNat)) := by
  have := c_WU b v bs n.toNat (by omega) (by omega)
  rwa [natI hn.1] at this
theorem c_Wvalue (b : Nat) (v : Sl) (bs : List UInt8) (x : Mg) (hi : MvF x.er) (hc : MgC x) (hl : bs.length + (valB x.ms (x.ts.map En.er)).length ≤ 1000000000) : Ctr Tryz.prog 67 #[.pointer (some ⟨b, 0, none⟩), .agg x.row.toArray] (fun m => MgM m x) (wA b v bs) (fun _ : Sl => .tuple #[]) (fun _ _ => True) (fun v' => wA b v' (bs ++ valB x.ms (x.ts.map En.er))) := by
  refine Ctr.mk fun w F m C hs => x_Wvalue _ _ _ _ _ _ _ _ _ _ _ _ _ _ _ _ _ _ _ _ _ _ _ _ _ _ _ _ _ _ _ _ _ _ _ _ _ _ _ _ _ _ w _ fun w1 L2 h1 g1 => ?_
  simp only [valB, List.length_append] at hl
  refine (c_Wprocs b v bs x.mq x.ms hc.m hi.msW (by omega)).call (As := []) (C.hidL h1 g1) hs.mm fun v1 m1 w4 hk hm1 _ C => ⟨rfl, hk, [], facts_nil _ _, fun wa La ha ga => ?_⟩
  refine (c_ePutAll b v1 _ x.tq x.ts hc.ts (fun e he => hi.ts _ (List.mem_map_of_mem he)) (by simp only [List.length_append]; omega) hs.tl).call (As := []) (C.hidL ha ga) (hs.t.mono hm1) fun v2 m2 w9 hk hm2 _ C => ⟨rfl, hk, ?_⟩
  refine ⟨v2, ?_, ?_, rfl, trivial, ?_⟩
  rotate_left 2
  · rw [valB, ← List.append_assoc]; exact C
theorem c_Wmsg_0 (b : Nat) (v : Sl) (bs : List UInt8) (x : Mg) (hk0 : x.er.kd = 0) (hi : MvF x.er) (hc : MgC x) (h9 : bs.length ≤ 1000) (hl : bs.length + (fldB x.er).length ≤ 1000000000) : Ctr Tryz.prog 21 #[.pointer (some ⟨b, 0, none⟩), .agg x.row.toArray] (fun m => MgM m x) (wA b v bs) (fun _ : Sl => .tuple #[]) (fun _ _ => True) (fun v' => wA b v' (bs ++ fldB x.er)) := by
  refine Ctr.mk fun w F m C hs => x_Wmsg _ _ _ _ _ _ _ _ _ _ _ _ _ _ _ _ _ _ _ _ _ _ _ _ _ _ _ _ _ _ _ _ _ _ _ _ _ _ _ _ _ _ w _ ?_
  have hk1 : x.kd = 0 := hk0
  have hf : fldB x.er = [u8 x.gr] ++ idB x.id ++ putU x.fl.toNat ++ listB ptB x.ps := by
    unfold fldB; rw [hk0]; rfl
  rw [hf] at hl ⊢
  repeat (first | rw [if_pos (by rw [hk1]; decide)] | rw [if_neg (by rw [hk1]; decide)])
  refine ⟨[], facts_nil _ _, fun wa La ha ga => ?_⟩
  replace C := C.hidL ha ga
  refine (c_WBi b v _ x.gr hi.gr (by simp only [rndB, valB, List.length_append, List.length_singleton] at hl ⊢; omega)).call (As := []) C trivial fun v1 m1 w1 hk hm1 _ C => ⟨rfl, hk, ?_⟩
  replace hs := hs.mono hm1
  refine ⟨[], facts_nil _ _, fun wa La ha ga => ?_⟩
  replace C := C.hidL ha ga
  refine (c_PutID b v1 _ x.id hi.id (by simp only [rndB, valB, List.length_append, List.length_singleton] at hl ⊢; omega)).call (As := []) C trivial fun v2 m2 w2 hk hm2 _ C => ⟨rfl, hk, ?_⟩
  replace hs := hs.mono hm2
  refine ⟨[], facts_nil _ _, fun wa La ha ga => ?_⟩
  replace C := C.hidL ha ga
  refine (c_WUi b v2 _ x.fl ⟨hi.fl.1, lt64 hi.fl.2⟩ (by simp only [rndB, valB, List.length_append, List.length_singleton] at hl ⊢; omega)).call (As := []) C trivial fun v3 m3 w3 hk hm3 _ C => ⟨rfl, hk, facts_nil _ _, ?_⟩
  replace hs := hs.mono hm3
  refine ⟨[], facts_nil _ _, fun wa La ha ga => ?_⟩
  replace C := C.hidL ha ga
  refine (c_pPutAll b v3 _ x.pq x.ps hc.p hi.ps (by simp only [rndB, valB, List.length_append, List.length_singleton] at hl ⊢; omega)).call (As := []) C hs.p fun v4 m4 w4 hk hm4 _ C => ⟨rfl, hk, ?_⟩
  replace hs := hs.mono hm4
  refine ⟨v4, ?_, ?_, rfl, trivial, ?_⟩
  rotate_left 2
  · simp only [rndB, valB, ← List.append_assoc, List.append_nil] at C ⊢; exact C
theorem c_Wmsg_1 (b : Nat) (v : Sl) (bs : List UInt8) (x : Mg) (hk0 : x.er.kd = 1) (hi : MvF x.er) (hc : MgC x) (h9 : bs.length ≤ 1000) (hl : bs.length + (fldB x.er).length ≤ 1000000000) : Ctr Tryz.prog 21 #[.pointer (some ⟨b, 0, none⟩), .agg x.row.toArray] (fun m => MgM m x) (wA b v bs) (fun _ : Sl => .tuple #[]) (fun _ _ => True) (fun v' => wA b v' (bs ++ fldB x.er)) := by
  refine Ctr.mk fun w F m C hs => x_Wmsg _ _ _ _ _ _ _ _ _ _ _ _ _ _ _ _ _ _ _ _ _ _ _ _ _ _ _ _ _ _ _ _ _ _ _ _ _ _ _ _ _ _ w _ ?_
  have hk1 : x.kd = 1 := hk0
  have hf : fldB x.er = idB x.id ++ resB x.rc x.rv ++ vwB x.vg x.vn x.vm := by
    unfold fldB; rw [hk0]; rfl
  rw [hf] at hl ⊢
  repeat (first | rw [if_pos (by rw [hk1]; decide)] | rw [if_neg (by rw [hk1]; decide)])
  refine ⟨[], facts_nil _ _, fun wa La ha ga => ?_⟩
  replace C := C.hidL ha ga
  refine (c_PutID b v _ x.id hi.id (by simp only [rndB, valB, List.length_append, List.length_singleton] at hl ⊢; omega)).call (As := []) C trivial fun v1 m1 w1 hk hm1 _ C => ⟨rfl, hk, ?_⟩
  replace hs := hs.mono hm1
  refine ⟨[], facts_nil _ _, fun wa La ha ga => ?_⟩
  replace C := C.hidL ha ga
  refine (c_PutRes b v1 _ x.rc x.rv hi.rc (by simp only [rndB, valB, List.length_append, List.length_singleton] at hl ⊢; omega)).call (As := []) C trivial fun v2 m2 w2 hk hm2 _ C => ⟨rfl, hk, ?_⟩
  replace hs := hs.mono hm2
  refine ⟨[], facts_nil _ _, fun wa La ha ga => ?_⟩
  replace C := C.hidL ha ga
  refine (c_vPut b v2 _ ⟨x.vg, x.vn, x.vq, x.vm⟩ hi.vg ⟨hi.vn, hi.vn32⟩ hc.v hi.vmW (by simp only [rndB, valB, List.length_append, List.length_singleton] at hl ⊢; omega)).call (As := []) C hs.v fun v3 m3 w3 hk hm3 _ C => ⟨rfl, hk, ?_⟩
  replace hs := hs.mono hm3
  refine ⟨v3, ?_, ?_, rfl, trivial, ?_⟩
  rotate_left 2
  · simp only [rndB, valB, ← List.append_assoc, List.append_nil] at C ⊢; exact C
theorem c_Wmsg_2 (b : Nat) (v : Sl) (bs : List UInt8) (x : Mg) (hk0 : x.er.kd = 2) (hi : MvF x.er) (hc : MgC x) (h9 : bs.length ≤ 1000) (hl : bs.length + (fldB x.er).length ≤ 1000000000) : Ctr Tryz.prog 21 #[.pointer (some ⟨b, 0, none⟩), .agg x.row.toArray] (fun m => MgM m x) (wA b v bs) (fun _ : Sl => .tuple #[]) (fun _ _ => True) (fun v' => wA b v' (bs ++ fldB x.er)) := by
  refine Ctr.mk fun w F m C hs => x_Wmsg _ _ _ _ _ _ _ _ _ _ _ _ _ _ _ _ _ _ _ _ _ _ _ _ _ _ _ _ _ _ _ _ _ _ _ _ _ _ _ _ _ _ w _ ?_
  have hk1 : x.kd = 2 := hk0
  have hf : fldB x.er = idB x.id ++ [u8 x.co] := by
    unfold fldB; rw [hk0]; rfl
  rw [hf] at hl ⊢
  repeat (first | rw [if_pos (by rw [hk1]; decide)] | rw [if_neg (by rw [hk1]; decide)])
  refine ⟨[], facts_nil _ _, fun wa La ha ga => ?_⟩
  replace C := C.hidL ha ga
  refine (c_PutID b v _ x.id hi.id (by simp only [rndB, valB, List.length_append, List.length_singleton] at hl ⊢; omega)).call (As := []) C trivial fun v1 m1 w1 hk hm1 _ C => ⟨rfl, hk, ?_⟩
  replace hs := hs.mono hm1
  refine ⟨[], facts_nil _ _, fun wa La ha ga => ?_⟩
  replace C := C.hidL ha ga
  refine (c_WBi b v1 _ x.co hi.co (by simp only [rndB, valB, List.length_append, List.length_singleton] at hl ⊢; omega)).call (As := []) C trivial fun v2 m2 w2 hk hm2 _ C => ⟨rfl, hk, ?_⟩
  replace hs := hs.mono hm2
  refine ⟨v2, ?_, ?_, rfl, trivial, ?_⟩
  rotate_left 2
  · simp only [rndB, valB, ← List.append_assoc, List.append_nil] at C ⊢; exact C
theorem c_Wmsg_3 (b : Nat) (v : Sl) (bs : List UInt8) (x : Mg) (hk0 : x.er.kd = 3) (hi : MvF x.er) (hc : MgC x) (h9 : bs.length ≤ 1000) (hl : bs.length + (fldB x.er).length ≤ 1000000000) : Ctr Tryz.prog 21 #[.pointer (some ⟨b, 0, none⟩), .agg x.row.toArray] (fun m => MgM m x) (wA b v bs) (fun _ : Sl => .tuple #[]) (fun _ _ => True) (fun v' => wA b v' (bs ++ fldB x.er)) := by
  refine Ctr.mk fun w F m C hs => x_Wmsg _ _ _ _ _ _ _ _ _ _ _ _ _ _ _ _ _ _ _ _ _ _ _ _ _ _ _ _ _ _ _ _ _ _ _ _ _ _ _ _ _ _ w _ ?_
  have hk1 : x.kd = 3 := hk0
  have hf : fldB x.er = [u8 x.gr] ++ putU x.nn.toNat ++ putU x.fr.toNat ++ putU x.cm.toNat ++ evsB (x.es.map En.er) := by
    unfold fldB; rw [hk0]; rfl
  rw [hf] at hl ⊢
  repeat (first | rw [if_pos (by rw [hk1]; decide)] | rw [if_neg (by rw [hk1]; decide)])
  refine ⟨[], facts_nil _ _, fun wa La ha ga => ?_⟩
  replace C := C.hidL ha ga
  refine (c_WBi b v _ x.gr hi.gr (by simp only [rndB, valB, List.length_append, List.length_singleton] at hl ⊢; omega)).call (As := []) C trivial fun v1 m1 w1 hk hm1 _ C => ⟨rfl, hk, ?_⟩
  replace hs := hs.mono hm1
  refine ⟨[], facts_nil _ _, fun wa La ha ga => ?_⟩
  replace C := C.hidL ha ga
  refine (c_WUi b v1 _ x.nn hi.nn (by simp only [rndB, valB, List.length_append, List.length_singleton] at hl ⊢; omega)).call (As := []) C trivial fun v2 m2 w2 hk hm2 _ C => ⟨rfl, hk, facts_nil _ _, ?_⟩
  replace hs := hs.mono hm2
  refine ⟨[], facts_nil _ _, fun wa La ha ga => ?_⟩
  replace C := C.hidL ha ga
  refine (c_WUi b v2 _ x.fr ⟨hi.fr.1, lt64 hi.fr.2⟩ (by simp only [rndB, valB, List.length_append, List.length_singleton] at hl ⊢; omega)).call (As := []) C trivial fun v3 m3 w3 hk hm3 _ C => ⟨rfl, hk, facts_nil _ _, ?_⟩
  replace hs := hs.mono hm3
  rw [if_pos (by rw [hk1]; decide)]
  refine ⟨[], facts_nil _ _, fun wa La ha ga => ?_⟩
  replace C := C.hidL ha ga
  refine (c_WUi b v3 _ x.cm ⟨hi.cm.1, lt64 hi.cm.2⟩ (by simp only [rndB, valB, List.length_append, List.length_singleton] at hl ⊢; omega)).call (As := []) C trivial fun v4 m4 w4 hk hm4 _ C => ⟨rfl, hk, facts_nil _ _, ?_⟩
  replace hs := hs.mono hm4
  refine ⟨[], facts_nil _ _, fun wa La ha ga => ?_⟩
  replace C := C.hidL ha ga
  refine (c_ePutAll b v4 _ x.eq x.es hc.es (fun e he => hi.es _ (List.mem_map_of_mem he)) (by simp only [rndB, valB, List.length_append, List.length_singleton] at hl ⊢; omega) hs.el).call (As := []) C hs.e fun v5 m5 w5 hk hm5 _ C => ⟨rfl, hk, ?_⟩
  replace hs := hs.mono hm5
  refine ⟨v5, ?_, ?_, rfl, trivial, ?_⟩
  rotate_left 2
  · simp only [rndB, valB, ← List.append_assoc, List.append_nil] at C ⊢; exact C
theorem c_Wmsg_4 (b : Nat) (v : Sl) (bs : List UInt8) (x : Mg) (hk0 : x.er.kd = 4) (hi : MvF x.er) (hc : MgC x) (h9 : bs.length ≤ 1000) (hl : bs.length + (fldB x.er).length ≤ 1000000000) : Ctr Tryz.prog 21 #[.pointer (some ⟨b, 0, none⟩), .agg x.row.toArray] (fun m => MgM m x) (wA b v bs) (fun _ : Sl => .tuple #[]) (fun _ _ => True) (fun v' => wA b v' (bs ++ fldB x.er)) := by
  refine Ctr.mk fun w F m C hs => x_Wmsg _ _ _ _ _ _ _ _ _ _ _ _ _ _ _ _ _ _ _ _ _ _ _ _ _ _ _ _ _ _ _ _ _ _ _ _ _ _ _ _ _ _ w _ ?_
  have hk1 : x.kd = 4 := hk0
  have hf : fldB x.er = [u8 x.gr] ++ putU x.nn.toNat ++ putU x.fr.toNat := by
    unfold fldB; rw [hk0]; rfl
  rw [hf] at hl ⊢
  repeat (first | rw [if_pos (by rw [hk1]; decide)] | rw [if_neg (by rw [hk1]; decide)])
  refine ⟨[], facts_nil _ _, fun wa La ha ga => ?_⟩
  replace C := C.hidL ha ga
  refine (c_WBi b v _ x.gr hi.gr (by simp only [rndB, valB, List.length_append, List.length_singleton] at hl ⊢; omega)).call (As := []) C trivial fun v1 m1 w1 hk hm1 _ C => ⟨rfl, hk, ?_⟩
  replace hs := hs.mono hm1
  refine ⟨[], facts_nil _ _, fun wa La ha ga => ?_⟩
  replace C := C.hidL ha ga
  refine (c_WUi b v1 _ x.nn hi.nn (by simp only [rndB, valB, List.length_append, List.length_singleton] at hl ⊢; omega)).call (As := []) C trivial fun v2 m2 w2 hk hm2 _ C => ⟨rfl, hk, facts_nil _ _, ?_⟩
  replace hs := hs.mono hm2
  refine ⟨[], facts_nil _ _, fun wa La ha ga => ?_⟩
  replace C := C.hidL ha ga
  refine (c_WUi b v2 _ x.fr ⟨hi.fr.1, lt64 hi.fr.2⟩ (by simp only [rndB, valB, List.length_append, List.length_singleton] at hl ⊢; omega)).call (As := []) C trivial fun v3 m3 w3 hk hm3 _ C => ⟨rfl, hk, facts_nil _ _, ?_⟩
  replace hs := hs.mono hm3
  rw [if_neg (by rw [hk1]; decide)]
  refine ⟨v3, ?_, ?_, rfl, trivial, ?_⟩
  rotate_left 2
  · simp only [rndB, valB, ← List.append_assoc, List.append_nil] at C ⊢; exact C
theorem c_Wmsg_5 (b : Nat) (v : Sl) (bs : List UInt8) (x : Mg) (hk0 : x.er.kd = 5) (hi : MvF x.er) (hc : MgC x) (h9 : bs.length ≤ 1000) (hl : bs.length + (fldB x.er).length ≤ 1000000000) : Ctr Tryz.prog 21 #[.pointer (some ⟨b, 0, none⟩), .agg x.row.toArray] (fun m => MgM m x) (wA b v bs) (fun _ : Sl => .tuple #[]) (fun _ _ => True) (fun v' => wA b v' (bs ++ fldB x.er)) := by
  refine Ctr.mk fun w F m C hs => x_Wmsg _ _ _ _ _ _ _ _ _ _ _ _ _ _ _ _ _ _ _ _ _ _ _ _ _ _ _ _ _ _ _ _ _ _ _ _ _ _ _ _ _ _ w _ ?_
  have hk1 : x.kd = 5 := hk0
  have hf : fldB x.er = rndB x.gr x.nn x.ba := by
    unfold fldB; rw [hk0]; rfl
  rw [hf] at hl ⊢
  repeat (first | rw [if_pos (by rw [hk1]; decide)] | rw [if_neg (by rw [hk1]; decide)])
  intro wa La ha ga
  replace C := C.hidL ha ga
  refine (c_Wround b v _ x hi.toMvIn (by omega) hi.nn32).call (As := []) C trivial fun v1 m1 w1 hk hm1 _ C => ⟨rfl, hk, ?_⟩
  replace hs := hs.mono hm1
  refine ⟨v1, ?_, ?_, rfl, trivial, ?_⟩
  rotate_left 2
  · simp only [rndB, valB, ← List.append_assoc, List.append_nil] at C ⊢; exact C
theorem c_Wmsg_6 (b : Nat) (v : Sl) (bs : List UInt8) (x : Mg) (hk0 : x.er.kd = 6) (hi : MvF x.er) (hc : MgC x) (h9 : bs.length ≤ 1000) (hl : bs.length + (fldB x.er).length ≤ 1000000000) : Ctr Tryz.prog 21 #[.pointer (some ⟨b, 0, none⟩), .agg x.row.toArray] (fun m => MgM m x) (wA b v bs) (fun _ : Sl => .tuple #[]) (fun _ _ => True) (fun v' => wA b v' (bs ++ fldB x.er)) := by
  refine Ctr.mk fun w F m C hs => x_Wmsg _ _ _ _ _ _ _ _ _ _ _ _ _ _ _ _ _ _ _ _ _ _ _ _ _ _ _ _ _ _ _ _ _ _ _ _ _ _ _ _ _ _ w _ ?_
  have hk1 : x.kd = 6 := hk0
  have hf : fldB x.er = rndB x.gr x.nn x.ba := by
    unfold fldB; rw [hk0]; rfl
  rw [hf] at hl ⊢
  repeat (first | rw [if_pos (by rw [hk1]; decide)] | rw [if_neg (by rw [hk1]; decide)])
  intro wa La ha ga
  replace C := C.hidL ha ga
  refine (c_Wround b v _ x hi.toMvIn (by omega) hi.nn32).call (As := []) C trivial fun v1 m1 w1 hk hm1 _ C => ⟨rfl, hk, ?_⟩
  replace hs := hs.mono hm1
  refine ⟨v1, ?_, ?_, rfl, trivial, ?_⟩
  rotate_left 2
  · simp only [rndB, valB, ← List.append_assoc, List.append_nil] at C ⊢; exact C
theorem c_Wmsg_7 (b : Nat) (v : Sl) (bs : List UInt8) (x : Mg) (hk0 : x.er.kd = 7) (hi : MvF x.er) (hc : MgC x) (h9 : bs.length ≤ 1000) (hl : bs.length + (fldB x.er).length ≤ 1000000000) : Ctr Tryz.prog 21 #[.pointer (some ⟨b, 0, none⟩), .agg x.row.toArray] (fun m => MgM m x) (wA b v bs) (fun _ : Sl => .tuple #[]) (fun _ _ => True) (fun v' => wA b v' (bs ++ fldB x.er)) := by
  refine Ctr.mk fun w F m C hs => x_Wmsg _ _ _ _ _ _ _ _ _ _ _ _ _ _ _ _ _ _ _ _ _ _ _ _ _ _ _ _ _ _ _ _ _ _ _ _ _ _ _ _ _ _ w _ ?_
  have hk1 : x.kd = 7 := hk0
  have hf : fldB x.er = rndB x.gr x.nn x.ba := by
    unfold fldB; rw [hk0]; rfl
  rw [hf] at hl ⊢
  repeat (first | rw [if_pos (by rw [hk1]; decide)] | rw [if_neg (by rw [hk1]; decide)])
  intro wa La ha ga
  replace C := C.hidL ha ga
  refine (c_Wround b v _ x hi.toMvIn (by omega) hi.nn32).call (As := []) C trivial fun v1 m1 w1 hk hm1 _ C => ⟨rfl, hk, ?_⟩
  replace hs := hs.mono hm1
  refine ⟨v1, ?_, ?_, rfl, trivial, ?_⟩
  rotate_left 2
  · simp only [rndB, valB, ← List.append_assoc, List.append_nil] at C ⊢; exact C
theorem c_Wmsg_8 (b : Nat) (v : Sl) (bs : List UInt8) (x : Mg) (hk0 : x.er.kd = 8) (hi : MvF x.er) (hc : MgC x) (h9 : bs.length ≤ 1000) (hl : bs.length + (fldB x.er).length ≤ 1000000000) : Ctr Tryz.prog 21 #[.pointer (some ⟨b, 0, none⟩), .agg x.row.toArray] (fun m => MgM m x) (wA b v bs) (fun _ : Sl => .tuple #[]) (fun _ _ => True) (fun v' => wA b v' (bs ++ fldB x.er)) := by
  refine Ctr.mk fun w F m C hs => x_Wmsg _ _ _ _ _ _ _ _ _ _ _ _ _ _ _ _ _ _ _ _ _ _ _ _ _ _ _ _ _ _ _ _ _ _ _ _ _ _ _ _ _ _ w _ ?_
  have hk1 : x.kd = 8 := hk0
  have hf : fldB x.er = rndB x.gr x.nn x.ba ++ evsB (x.es.map En.er) ++ [flagB x.has] ++ (if x.has = true then putU x.ac.toNat ++ valB x.ms (x.ts.map En.er) else []) := by
    unfold fldB; rw [hk0]; rfl
  rw [hf] at hl ⊢
  repeat (first | rw [if_pos (by rw [hk1]; decide)] | rw [if_neg (by rw [hk1]; decide)])
  intro wa La ha ga
  replace C := C.hidL ha ga
  refine (c_Wround b v _ x hi.toMvIn (by omega) hi.nn32).call (As := []) C trivial fun v1 m1 w1 hk hm1 _ C => ⟨rfl, hk, ?_⟩
  replace hs := hs.mono hm1
  refine ⟨[], facts_nil _ _, fun wa La ha ga => ?_⟩
  replace C := C.hidL ha ga
  refine (c_ePutAll b v1 _ x.eq x.es hc.es (fun e he => hi.es _ (List.mem_map_of_mem he)) (by simp only [rndB, valB, List.length_append, List.length_singleton] at hl ⊢; omega) hs.el).call (As := []) C hs.e fun v2 m2 w2 hk hm2 _ C => ⟨rfl, hk, ?_⟩
  replace hs := hs.mono hm2
  refine (c_Wflag b v2 _ x.has (by simp only [rndB, valB, List.length_append, List.length_singleton] at hl ⊢; omega)).call (As := []) C trivial fun v3 m3 w3 hk hm3 _ C => ⟨rfl, hk, ?_⟩
  replace hs := hs.mono hm3
  by_cases hh : x.has = true
  · rw [if_pos hh]; rw [if_pos hh]; rw [if_pos hh] at hl
    refine ⟨[], facts_nil _ _, fun wa La ha ga => ?_⟩
    replace C := C.hidL ha ga
    refine (c_WUd b v3 _ x.ac hi.ac (by simp only [rndB, valB, List.length_append, List.length_singleton] at hl ⊢; omega)).call (As := []) C trivial fun v4 m4 w4 hk hm4 _ C => ⟨rfl, hk, ?_⟩
    replace hs := hs.mono hm4
    refine (c_Wvalue b v4 _ x hi hc (by simp only [rndB, valB, List.length_append, List.length_singleton] at hl ⊢; omega)).call (As := []) C hs fun v5 m5 w5 hk hm5 _ C => ⟨rfl, hk, ?_⟩
    replace hs := hs.mono hm5
    refine ⟨v5, ?_, ?_, rfl, trivial, ?_⟩
    rotate_left 2
    · simp only [rndB, valB, ← List.append_assoc, List.append_nil] at C ⊢; exact C
  · rw [if_neg hh]; rw [if_neg hh]; rw [if_neg hh] at hl
    refine ⟨v3, ?_, ?_, rfl, trivial, ?_⟩
    rotate_left 2
    · simp only [rndB, valB, ← List.append_assoc, List.append_nil] at C ⊢; exact C
theorem c_Wmsg_9 (b : Nat) (v : Sl) (bs : List UInt8) (x : Mg) (hk0 : x.er.kd = 9) (hi : MvF x.er) (hc : MgC x) (h9 : bs.length ≤ 1000) (hl : bs.length + (fldB x.er).length ≤ 1000000000) : Ctr Tryz.prog 21 #[.pointer (some ⟨b, 0, none⟩), .agg x.row.toArray] (fun m => MgM m x) (wA b v bs) (fun _ : Sl => .tuple #[]) (fun _ _ => True) (fun v' => wA b v' (bs ++ fldB x.er)) := by
  refine Ctr.mk fun w F m C hs => x_Wmsg _ _ _ _ _ _ _ _ _ _ _ _ _ _ _ _ _ _ _ _ _ _ _ _ _ _ _ _ _ _ _ _ _ _ _ _ _ _ _ _ _ _ w _ ?_
  have hk1 : x.kd = 9 := hk0
  have hf : fldB x.er = rndB x.gr x.nn x.ba ++ valB x.ms (x.ts.map En.er) := by
    unfold fldB; rw [hk0]; rfl
  rw [hf] at hl ⊢
  repeat (first | rw [if_pos (by rw [hk1]; decide)] | rw [if_neg (by rw [hk1]; decide)])
  intro wa La ha ga
  replace C := C.hidL ha ga
  refine (c_Wround b v _ x hi.toMvIn (by omega) hi.nn32).call (As := []) C trivial fun v1 m1 w1 hk hm1 _ C => ⟨rfl, hk, ?_⟩
  replace hs := hs.mono hm1
  refine (c_Wvalue b v1 _ x hi hc (by simp only [rndB, valB, List.length_append, List.length_singleton] at hl ⊢; omega)).call (As := []) C hs fun v2 m2 w2 hk hm2 _ C => ⟨rfl, hk, ?_⟩
  replace hs := hs.mono hm2
  refine ⟨v2, ?_, ?_, rfl, trivial, ?_⟩
  rotate_left 2
  · simp only [rndB, valB, ← List.append_assoc, List.append_nil] at C ⊢; exact C
theorem c_Wmsg_10 (b : Nat) (v : Sl) (bs : List UInt8) (x : Mg) (hk0 : x.er.kd = 10) (hi : MvF x.er) (hc : MgC x) (h9 : bs.length ≤ 1000) (hl : bs.length + (fldB x.er).length ≤ 1000000000) : Ctr Tryz.prog 21 #[.pointer (some ⟨b, 0, none⟩), .agg x.row.toArray] (fun m => MgM m x) (wA b v bs) (fun _ : Sl => .tuple #[]) (fun _ _ => True) (fun v' => wA b v' (bs ++ fldB x.er)) := by
  refine Ctr.mk fun w F m C hs => x_Wmsg _ _ _ _ _ _ _ _ _ _ _ _ _ _ _ _ _ _ _ _ _ _ _ _ _ _ _ _ _ _ _ _ _ _ _ _ _ _ _ _ _ _ w _ ?_
  have hk1 : x.kd = 10 := hk0
  have hf : fldB x.er = vwB x.vg x.vn x.vm ++ evsB (x.es.map En.er) := by
    unfold fldB; rw [hk0]; rfl
  rw [hf] at hl ⊢
  repeat (first | rw [if_pos (by rw [hk1]; decide)] | rw [if_neg (by rw [hk1]; decide)])
  refine ⟨[], facts_nil _ _, fun wa La ha ga => ?_⟩
  replace C := C.hidL ha ga
  refine (c_vPut b v _ ⟨x.vg, x.vn, x.vq, x.vm⟩ hi.vg ⟨hi.vn, hi.vn32⟩ hc.v hi.vmW (by simp only [rndB, valB, List.length_append, List.length_singleton] at hl ⊢; omega)).call (As := []) C hs.v fun v1 m1 w1 hk hm1 _ C => ⟨rfl, hk, ?_⟩
  replace hs := hs.mono hm1
  refine ⟨[], facts_nil _ _, fun wa La ha ga => ?_⟩
  replace C := C.hidL ha ga
  refine (c_ePutAll b v1 _ x.eq x.es hc.es (fun e he => hi.es _ (List.mem_map_of_mem he)) (by simp only [rndB, valB, List.length_append, List.length_singleton] at hl ⊢; omega) hs.el).call (As := []) C hs.e fun v2 m2 w2 hk hm2 _ C => ⟨rfl, hk, ?_⟩
  replace hs := hs.mono hm2
  refine ⟨v2, ?_, ?_, rfl, trivial, ?_⟩
  rotate_left 2
  · simp only [rndB, valB, ← List.append_assoc, List.append_nil] at C ⊢; exact C
theorem c_Wmsg_11 (b : Nat) (v : Sl) (bs : List UInt8) (x : Mg) (hk0 : x.er.kd = 11) (hi : MvF x.er) (hc : MgC x) (h9 : bs.length ≤ 1000) (hl : bs.length + (fldB x.er).length ≤ 1000000000) : Ctr Tryz.prog 21 #[.pointer (some ⟨b, 0, none⟩), .agg x.row.toArray] (fun m => MgM m x) (wA b v bs) (fun _ : Sl => .tuple #[]) (fun _ _ => True) (fun v' => wA b v' (bs ++ fldB x.er)) := by
  refine Ctr.mk fun w F m C hs => x_Wmsg _ _ _ _ _ _ _ _ _ _ _ _ _ _ _ _ _ _ _ _ _ _ _ _ _ _ _ _ _ _ _ _ _ _ _ _ _ _ _ _ _ _ w _ ?_
  have hk1 : x.kd = 11 := hk0
  have hf : fldB x.er = [u8 x.gr] ++ putP x.pn x.pl := by
    unfold fldB; rw [hk0]; rfl
  rw [hf] at hl ⊢
  repeat (first | rw [if_pos (by rw [hk1]; decide)] | rw [if_neg (by rw [hk1]; decide)])
  refine ⟨[], facts_nil _ _, fun wa La ha ga => ?_⟩
  replace C := C.hidL ha ga
  refine (c_WBi b v _ x.gr hi.gr (by simp only [rndB, valB, List.length_append, List.length_singleton] at hl ⊢; omega)).call (As := []) C trivial fun v1 m1 w1 hk hm1 _ C => ⟨rfl, hk, ?_⟩
  replace hs := hs.mono hm1
  refine ⟨[], facts_nil _ _, fun wa La ha ga => ?_⟩
  replace C := C.hidL ha ga
  refine (c_PutProc b v1 _ x.pn x.pl hi.pn hi.pl (by simp only [rndB, valB, List.length_append, List.length_singleton] at hl ⊢; omega)).call (As := []) C trivial fun v2 m2 w2 hk hm2 _ C => ⟨rfl, hk, ?_⟩
  replace hs := hs.mono hm2
  refine ⟨v2, ?_, ?_, rfl, trivial, ?_⟩
  rotate_left 2
  · simp only [rndB, valB, ← List.append_assoc, List.append_nil] at C ⊢; exact C
theorem c_Wmsg_12 (b : Nat) (v : Sl) (bs : List UInt8) (x : Mg) (hk0 : x.er.kd = 12) (hi : MvF x.er) (hc : MgC x) (h9 : bs.length ≤ 1000) (hl : bs.length + (fldB x.er).length ≤ 1000000000) : Ctr Tryz.prog 21 #[.pointer (some ⟨b, 0, none⟩), .agg x.row.toArray] (fun m => MgM m x) (wA b v bs) (fun _ : Sl => .tuple #[]) (fun _ _ => True) (fun v' => wA b v' (bs ++ fldB x.er)) := by
  refine Ctr.mk fun w F m C hs => x_Wmsg _ _ _ _ _ _ _ _ _ _ _ _ _ _ _ _ _ _ _ _ _ _ _ _ _ _ _ _ _ _ _ _ _ _ _ _ _ _ _ _ _ _ w _ ?_
  have hk1 : x.kd = 12 := hk0
  have hf : fldB x.er = [u8 x.gr] ++ putP x.pn x.pl := by
    unfold fldB; rw [hk0]; rfl
  rw [hf] at hl ⊢
  repeat (first | rw [if_pos (by rw [hk1]; decide)] | rw [if_neg (by rw [hk1]; decide)])
  refine ⟨[], facts_nil _ _, fun wa La ha ga => ?_⟩
  replace C := C.hidL ha ga
  refine (c_WBi b v _ x.gr hi.gr (by simp only [rndB, valB, List.length_append, List.length_singleton] at hl ⊢; omega)).call (As := []) C trivial fun v1 m1 w1 hk hm1 _ C => ⟨rfl, hk, ?_⟩
  replace hs := hs.mono hm1
  refine ⟨[], facts_nil _ _, fun wa La ha ga => ?_⟩
  replace C := C.hidL ha ga
  refine (c_PutProc b v1 _ x.pn x.pl hi.pn hi.pl (by simp only [rndB, valB, List.length_append, List.length_singleton] at hl ⊢; omega)).call (As := []) C trivial fun v2 m2 w2 hk hm2 _ C => ⟨rfl, hk, ?_⟩
  replace hs := hs.mono hm2
  refine ⟨v2, ?_, ?_, rfl, trivial, ?_⟩
  rotate_left 2
  · simp only [rndB, valB, ← List.append_assoc, List.append_nil] at C ⊢; exact C
theorem c_Wmsg_13 (b : Nat) (v : Sl) (bs : List UInt8) (x : Mg) (hk0 : x.er.kd = 13) (hi : MvF x.er) (hc : MgC x) (h9 : bs.length ≤ 1000) (hl : bs.length + (fldB x.er).length ≤ 1000000000) : Ctr Tryz.prog 21 #[.pointer (some ⟨b, 0, none⟩), .agg x.row.toArray] (fun m => MgM m x) (wA b v bs) (fun _ : Sl => .tuple #[]) (fun _ _ => True) (fun v' => wA b v' (bs ++ fldB x.er)) := by
  refine Ctr.mk fun w F m C hs => x_Wmsg _ _ _ _ _ _ _ _ _ _ _ _ _ _ _ _ _ _ _ _ _ _ _ _ _ _ _ _ _ _ _ _ _ _ _ _ _ _ _ _ _ _ w _ ?_
  have hk1 : x.kd = 13 := hk0
  have hf : fldB x.er = [u8 x.gr] ++ putP x.pn x.pl := by
    unfold fldB; rw [hk0]; rfl
  rw [hf] at hl ⊢
  repeat (first | rw [if_pos (by rw [hk1]; decide)] | rw [if_neg (by rw [hk1]; decide)])
  refine ⟨[], facts_nil _ _, fun wa La ha ga => ?_⟩
  replace C := C.hidL ha ga
  refine (c_WBi b v _ x.gr hi.gr (by simp only [rndB, valB, List.length_append, List.length_singleton] at hl ⊢; omega)).call (As := []) C trivial fun v1 m1 w1 hk hm1 _ C => ⟨rfl, hk, ?_⟩
  replace hs := hs.mono hm1
  refine ⟨[], facts_nil _ _, fun wa La ha ga => ?_⟩
  replace C := C.hidL ha ga
  refine (c_PutProc b v1 _ x.pn x.pl hi.pn hi.pl (by simp only [rndB, valB, List.length_append, List.length_singleton] at hl ⊢; omega)).call (As := []) C trivial fun v2 m2 w2 hk hm2 _ C => ⟨rfl, hk, ?_⟩
  replace hs := hs.mono hm2
  refine ⟨v2, ?_, ?_, rfl, trivial, ?_⟩
  rotate_left 2
  · simp only [rndB, valB, ← List.append_assoc, List.append_nil] at C ⊢; exact C
end Go.Proofs
namespace Go.Proofs
open Go X RowKit
theorem ow_app0 {F0 : List Nat} {m0 m : Mem} {w0 w : World} {L : List Nat} {As : List Asn} {q p : Sl} {l : List UInt8} (C : Ctx F0 m0 w0 w L m (ow q [] :: As)) (h : bsM m p l) (hl : l.length ≤ 140737488355328) :
    ∃ q2 c2 w', (Builtin.append_ #[41, 41] 41 #[.slice q.1 0 q.2, slV p l.length]).run Tryz.prog w = .ok (.slice q2 l.length c2) w' ∧ Kept L w w' ∧ Ctx F0 m0 w0 w' L m (ow (q2, c2) l :: As) := by
  obtain ⟨q2, c2, w7, hr, hk2, D2⟩ := ow_app C (t2 := 41) (by kernel_rfl) (x := slV p l.length) (k := l) (C.src h) (by simp; omega)
  simp only [List.length_nil, Nat.zero_add, List.nil_append] at hr D2
  exact ⟨q2, c2, w7, hr, hk2, D2⟩
theorem ow_new {F0 : List Nat} {m0 m : Mem} {w0 w : World} {L : List Nat} {As : List Asn} (C : Ctx F0 m0 w0 w L m As) : Ctx F0 m0 w0 (w.alloc (.cells #[] 5)) L m (ow (some ⟨w.heap.size, 0, none⟩, 0) [] :: As) := Ctx.slNew (cs := byV []) (n := 0) rfl (by unfold maxLen; omega) C
theorem ow_two {F0 : List Nat} {m0 m : Mem} {w0 w : World} {L : List Nat} {As : List Asn} {q p : Sl} {l k : List UInt8} (C : Ctx F0 m0 w0 w L m (ow q l :: ow p k :: As)) (hl : l.length + k.length ≤ 140737488355328) :
    ∃ q2 c2 w', (Builtin.append_ #[41, 41] 41 #[.slice q.1 l.length q.2, slV p k.length]).run Tryz.prog w = .ok (.slice q2 (l ++ k).length c2) w' ∧ Kept L w w' ∧ Ctx F0 m0 w0 w' L m (ow (q2, c2) (l ++ k) :: As) := by
  have hs := C.swap.slSrc
  obtain ⟨q2, c2, w7, hr, hk2, D2⟩ := ow_app C (t2 := 41) (by kernel_rfl) (x := slV p k.length) (k := k) hs hl
  exact ⟨q2, c2, w7, by rw [hr, List.length_append], hk2, D2.swap.drop⟩
theorem toBA_size (l : List UInt8) : (toBA l).size = l.length := by rw [← data_len]; simp [toBA]
theorem c_r1Zig (n : Int) (h : -9223372036854775808 ≤ n ∧ n ≤ 9223372036854775807) : Gives Tryz.prog 156 #[.int .i64 n] (.int .u64 (zigN n : Int)) := fun w => x_r1Zig _ w _ (by
  by_cases hn : n < 0
  · rw [if_pos (by simpa using hn)]
    refine ⟨?_, below_refl _ _⟩
    rw [w_i64 (n := n + 1) (by omega) (by omega), w_i64 (by omega) (by omega), w_u64 (n := 0 - (n + 1)) (by omega) (by omega), w_u64 (n := 2 * (0 - (n + 1))) (by omega) (by omega), w_u64 (by omega) (by omega)]
    congr 2; rw [zigN, if_pos hn]; omega
  · rw [if_neg (by simpa using hn)]
    refine ⟨?_, below_refl _ _⟩
    rw [w_u64 (n := n) (by omega) (by omega), w_u64 (by omega) (by omega)]
    congr 2; rw [zigN, if_neg hn]; omega)
theorem c_r1Ti (s : ByteArray) (hs : (textB s).length ≤ 10000000) : Ctr Tryz.prog 131 #[.string s] noMem [] (fun q : Sl => slV q (textB s).length) (fun _ _ => True) (fun q => [ow q (textB s)]) := c_r1Text s (by
  have hd : s.data.toList.length = s.size := data_len s
  simp only [textB, List.length_append] at hs; omega)
theorem c_r1Pi (n : Int) (hn : 0 ≤ n ∧ n < 18446744073709551616) : Ctr Tryz.prog 74 #[.int .u64 (IntKind.wrap .u64 n)] noMem [] (fun q : Sl => slV q (putU n.toNat).length) (fun _ _ => True) (fun q => [ow q (putU n.toNat)]) := by
  have := c_r1Put n.toNat (by omega)
  rwa [u64V hn]
theorem ow_lit {F0 : List Nat} {m0 m : Mem} {w0 w : World} {L : List Nat} {As : List Asn} (l : List UInt8) (hl : l.length ≤ 100) (C : Ctx F0 m0 w0 w L m As) : Ctx F0 m0 w0 (w.alloc (.cells (byV l).toArray 5)) L m (ow (some ⟨w.heap.size, 0, none⟩, l.length) l :: As) := Ctx.slNew (cs := byV l) (n := l.length) (by rw [byV_len, Nat.mul_one]) (by unfold maxLen; omega) C
theorem c_r3Put (p : Pt) (hi : PtIn p) (hl : (ptB p).length ≤ 10000000) : Ctr Tryz.prog 130 #[.agg p.row.toArray] noMem [] (fun q : Sl => slV q (ptB p).length) (fun _ _ => True) (fun q => [ow q (ptB p)]) := by
  refine Ctr.mk fun w F m C _ => x_r3Put _ _ _ _ _ w _ ?_
  rw [u8V hi.g, u8V hi.k]
  simp only [ptB, List.length_append, List.length_singleton] at hl
  have hz := putU_10 (zig_lt hi.n)
  refine ⟨[], facts_nil _ _, fun w2 L3 h2 g2 => ?_, fun w2 L3 h2 g2 => ?_⟩
  · refine ⟨facts_nil _ _, ?_⟩
    refine (c_r1Ti p.key (by omega)).call (As := [_]) (ow_lit [u8 p.g, u8 p.k] (by simp) (C.hidL h2 g2)) trivial fun q1 m1 w5 hk hm1 _ C => ⟨_, _, _, rfl, hk, facts_nil _ _, ?_⟩
    obtain ⟨q2, c2, w12, hr, hk2, C⟩ := ow_two (Ctx.swap C) (by first | omega | (simp only [List.length_append, List.length_cons, List.length_nil, List.length_singleton] at hl ⊢; omega))
    refine ⟨q2, _, c2, w12, hr, hk2, facts_nil _ _, [], facts_nil _ _, fun wa La ha ga => ?_⟩
    refine (c_r1Ti p.val (by omega)).call (As := [_]) (C.hidL ha ga) trivial fun q3 m3 w17 hk hm3 _ C => ⟨_, _, _, rfl, hk, facts_nil _ _, ?_⟩
    obtain ⟨q4, c4, w24, hr, hk2, C⟩ := ow_two (Ctx.swap C) (by first | omega | (simp only [List.length_append, List.length_cons, List.length_nil, List.length_singleton] at hl ⊢; omega))
    refine ⟨q4, _, c4, w24, hr, hk2, facts_nil _ _, ?_⟩
    refine C.gives (c_r1Zig p.n hi.n) fun w26 k26 C => ⟨_, rfl, k26, facts_nil _ _, ?_⟩
    refine (c_r1Put (zigN p.n) (zig_lt hi.n)).call (As := [_]) C trivial fun q5 m5 w29 hk hm5 _ C => ⟨_, _, _, rfl, hk, facts_nil _ _, ?_⟩
    obtain ⟨q6, c6, w36, hr, hk2, C⟩ := ow_two (Ctx.swap C) (by first | omega | (simp only [List.length_append, List.length_cons, List.length_nil, List.length_singleton] at hl ⊢; omega))
    exact ⟨q6, _, c6, w36, hr, hk2, facts_nil _ _, Ctr.ret (m' := m5) (L := La) (q6, c6) rfl trivial C⟩
  · refine (c_r1Ti p.key (by omega)).call (As := []) (C.hidL h2 g2) trivial fun q1 m1 w5 hk hm1 _ C => ⟨_, _, _, rfl, hk, facts_nil _ _, facts_nil _ _, ?_⟩
    obtain ⟨q2, c2, w12, hr, hk2, C⟩ := ow_two (ow_lit [u8 p.g, u8 p.k] (by simp) C) (by first | omega | (simp only [List.length_append, List.length_cons, List.length_nil, List.length_singleton] at hl ⊢; omega))
    refine ⟨q2, _, c2, w12, hr, hk2, facts_nil _ _, [], facts_nil _ _, fun wa La ha ga => ?_⟩
    refine (c_r1Ti p.val (by omega)).call (As := [_]) (C.hidL ha ga) trivial fun q3 m3 w17 hk hm3 _ C => ⟨_, _, _, rfl, hk, facts_nil _ _, ?_⟩
    obtain ⟨q4, c4, w24, hr, hk2, C⟩ := ow_two (Ctx.swap C) (by first | omega | (simp only [List.length_append, List.length_cons, List.length_nil, List.length_singleton] at hl ⊢; omega))
    refine ⟨q4, _, c4, w24, hr, hk2, facts_nil _ _, ?_⟩
    refine C.gives (c_r1Zig p.n hi.n) fun w26 k26 C => ⟨_, rfl, k26, facts_nil _ _, ?_⟩
    refine (c_r1Put (zigN p.n) (zig_lt hi.n)).call (As := [_]) C trivial fun q5 m5 w29 hk hm5 _ C => ⟨_, _, _, rfl, hk, facts_nil _ _, ?_⟩
    obtain ⟨q6, c6, w36, hr, hk2, C⟩ := ow_two (Ctx.swap C) (by first | omega | (simp only [List.length_append, List.length_cons, List.length_nil, List.length_singleton] at hl ⊢; omega))
    exact ⟨q6, _, c6, w36, hr, hk2, facts_nil _ _, Ctr.ret (m' := m5) (L := La) (q6, c6) rfl trivial C⟩
theorem c_r3PutRes (c : Int) (s : ByteArray) (hc : 0 ≤ c ∧ c < 256) (hl : (resB c s).length ≤ 10000000) : Ctr Tryz.prog 76 #[.agg #[.int .u8 c, .string s]] noMem [] (fun q : Sl => slV q (resB c s).length) (fun _ _ => True) (fun q => [ow q (resB c s)]) := by
  refine Ctr.mk fun w F m C _ => x_r3PutRes _ _ w _ ?_
  rw [u8V hc]
  simp only [resB, List.length_append, List.length_singleton] at hl
  refine ⟨[], facts_nil _ _, fun w2 L3 h2 g2 => ?_, fun w2 L3 h2 g2 => ?_⟩
  · refine ⟨facts_nil _ _, ?_⟩
    refine (c_r1Ti s (by omega)).call (As := [_]) (ow_lit [u8 c] (by simp) (C.hidL h2 g2)) trivial fun q1 m1 w5 hk hm1 _ C => ⟨_, _, _, rfl, hk, facts_nil _ _, ?_⟩
    obtain ⟨q2, c2, w12, hr, hk2, C⟩ := ow_two (Ctx.swap C) (by first | omega | (simp only [List.length_append, List.length_cons, List.length_nil, List.length_singleton] at hl ⊢; omega))
    exact ⟨q2, _, c2, w12, hr, hk2, facts_nil _ _, Ctr.ret (m' := m1) (L := L3) (q2, c2) rfl trivial C⟩
  · refine (c_r1Ti s (by omega)).call (As := []) (C.hidL h2 g2) trivial fun q1 m1 w5 hk hm1 _ C => ⟨_, _, _, rfl, hk, facts_nil _ _, facts_nil _ _, ?_⟩
    obtain ⟨q2, c2, w12, hr, hk2, C⟩ := ow_two (ow_lit [u8 c] (by simp) C) (by first | omega | (simp only [List.length_append, List.length_cons, List.length_nil, List.length_singleton] at hl ⊢; omega))
    exact ⟨q2, _, c2, w12, hr, hk2, facts_nil _ _, Ctr.ret (m' := m1) (L := L3) (q2, c2) rfl trivial C⟩
theorem ofMinI (n : Nat) : Value.int .u8 (IntKind.wrap .u8 (if (255 : Int) < ((n : Nat) : Int) then 255 else ((n : Nat) : Int))) = .int .u8 (((UInt8.ofNat (min n 255)).toNat : Nat) : Int) := by rw [min255, ofMin]
theorem c_r2PutPr (p : Pr) (h : PrW p) : Ctr Tryz.prog 81 #[.agg p.row.toArray] noMem [] (fun q : Sl => slV q (prB p).length) (fun _ _ => True) (fun q => [ow q (prB p)]) := c_r2PutProc p.n p.l h.n h.l
theorem c_r3PutAll (q : Sl) (l : List Pt) (hi : ∀ p ∈ l, PtIn p) (hl : (listB ptB l).length ≤ 10000000) : Ctr Tryz.prog 75 #[slV q l.length] (fun m => MSrc m 5 (slV q l.length) l.length (l.flatMap Pt.row)) [] (fun q : Sl => slV q (listB ptB l).length) (fun _ _ => True) (fun q => [ow q (listB ptB l)]) := by
  refine Ctr.mk fun w F m0 C hs => x_r3PutAll _ _ _ w _ ?_
  rw [ofMinI, min255]
  simp only [listB, List.length_append, List.length_singleton] at hl
  refine ⟨fun q k c i w' L' => ∃ (j : Nat) (m' : Mem), i = j ∧ j ≤ min l.length 255 ∧ m0.le m' ∧ k = ([UInt8.ofNat (min l.length 255)] ++ ((l.take 255).take j).flatMap ptB).length ∧ Ctx F m0 w w' L' m' [ow (q, c) ([UInt8.ofNat (min l.length 255)] ++ ((l.take 255).take j).flatMap ptB)], fun _ _ _ i _ => (((min l.length 255 : Nat) : Int) - i).toNat, ⟨0, m0, rfl, by omega, fun _ _ h => h, by rw [List.take_zero, List.flatMap_nil, List.append_nil]; rfl, by rw [List.take_zero, List.flatMap_nil, List.append_nil]; exact ow_lit [UInt8.ofNat (min l.length 255)] (by simp) C⟩, ?_⟩
  clear C
  rintro q1 k1 c1 i wa La _ ⟨j, m', rfl, hj, hmj, rfl, C⟩
  have htl : (l.take 255).length = min l.length 255 := by rw [List.length_take, Nat.min_comm]
  by_cases hjl : j < min l.length 255
  rotate_left
  · rw [if_neg (by simp only [decide_eq_true_eq]; omega)]
    have : (l.take 255).take j = l.take 255 := List.take_of_length_le (by omega)
    rw [this] at C ⊢
    exact Ctr.ret (m' := m') (L := La) (q1, c1) rfl trivial C
  rw [if_pos (by simp only [decide_eq_true_eq]; omega)]
  have hle := flat_le ptB (l := l.take 255) (j := j) (by omega)
  obtain ⟨a, ha, hc⟩ := msrc_255 pt_len (hs.mono hmj) hjl
  have hin := hi _ (List.mem_of_mem_take (List.getElem_mem (show j < (l.take 255).length by omega)))
  refine ⟨by omega, by omega, ?_⟩
  rw [ha, onSome_some, Int.toNat_natCast]
  refine ⟨_, _, _, _, _, C.cells hc, ?_⟩
  refine (c_r3Put _ hin (by omega)).call (As := [_]) C.noL trivial fun q2 m2 w16 hk hm2 _ C => ⟨_, _, _, rfl, hk.size, ?_⟩
  obtain ⟨q4, c4, w23, hr, hk4, C⟩ := ow_two (Ctx.swap C) (by simp only [List.length_append, List.length_singleton]; omega)
  refine ⟨q4, _, c4, w23, hr, hk4.size, ⟨j + 1, m2, by rw [w_i64 (by omega) (by omega)]; omega, by omega, fun a v h => hm2 a v (hmj a v h), ?_, ?_⟩, ?_⟩
  · rw [flat_snoc ptB (l := l.take 255) (j := j) (by omega), ← List.append_assoc]
  · rw [flat_snoc ptB (l := l.take 255) (j := j) (by omega), ← List.append_assoc]; exact C
  · exact Nat.le_of_eq (by show (((min l.length 255 : Nat) : Int) - IntKind.wrap .i64 ((j : Int) + 1)).toNat + 1 = (((min l.length 255 : Nat) : Int) - (j : Int)).toNat; rw [w_i64 (by omega) (by omega)]; omega)
theorem c_r6PutProcs (q : Sl) (l : List Pr) (hi : ∀ p ∈ l, PrW p) (hl : (listB prB l).length ≤ 10000000) : Ctr Tryz.prog 80 #[slV q l.length] (fun m => MSrc m 2 (slV q l.length) l.length (l.flatMap Pr.row)) [] (fun q : Sl => slV q (listB prB l).length) (fun _ _ => True) (fun q => [ow q (listB prB l)]) := by
  refine Ctr.mk fun w F m0 C hs => x_r6PutProcs _ _ _ w _ ?_
  rw [ofMinI, min255]
  simp only [listB, List.length_append, List.length_singleton] at hl
  refine ⟨fun q k c i w' L' => ∃ (j : Nat) (m' : Mem), i = j ∧ j ≤ min l.length 255 ∧ m0.le m' ∧ k = ([UInt8.ofNat (min l.length 255)] ++ ((l.take 255).take j).flatMap prB).length ∧ Ctx F m0 w w' L' m' [ow (q, c) ([UInt8.ofNat (min l.length 255)] ++ ((l.take 255).take j).flatMap prB)], fun _ _ _ i _ => (((min l.length 255 : Nat) : Int) - i).toNat, ⟨0, m0, rfl, by omega, fun _ _ h => h, by rw [List.take_zero, List.flatMap_nil, List.append_nil]; rfl, by rw [List.take_zero, List.flatMap_nil, List.append_nil]; exact ow_lit [UInt8.ofNat (min l.length 255)] (by simp) C⟩, ?_⟩
  clear C
  rintro q1 k1 c1 i wa La _ ⟨j, m', rfl, hj, hmj, rfl, C⟩
  have htl : (l.take 255).length = min l.length 255 := by rw [List.length_take, Nat.min_comm]
  by_cases hjl : j < min l.length 255
  rotate_left
  · rw [if_neg (by simp only [decide_eq_true_eq]; omega)]
    have : (l.take 255).take j = l.take 255 := List.take_of_length_le (by omega)
    rw [this] at C ⊢
    exact Ctr.ret (m' := m') (L := La) (q1, c1) rfl trivial C
  rw [if_pos (by simp only [decide_eq_true_eq]; omega)]
  have hle := flat_le prB (l := l.take 255) (j := j) (by omega)
  obtain ⟨a, ha, hc⟩ := msrc_255 pr_len (hs.mono hmj) hjl
  have hin := hi _ (List.mem_of_mem_take (List.getElem_mem (show j < (l.take 255).length by omega)))
  refine ⟨by omega, by omega, ?_⟩
  rw [ha, onSome_some, Int.toNat_natCast]
  refine ⟨_, _, C.cells hc, ?_⟩
  refine (c_r2PutPr _ hin).call (As := [_]) C.noL trivial fun q2 m2 w16 hk hm2 _ C => ⟨_, _, _, rfl, hk.size, ?_⟩
  obtain ⟨q4, c4, w23, hr, hk4, C⟩ := ow_two (Ctx.swap C) (by simp only [List.length_append, List.length_singleton]; omega)
  refine ⟨q4, _, c4, w23, hr, hk4.size, ⟨j + 1, m2, by rw [w_i64 (by omega) (by omega)]; omega, by omega, fun a v h => hm2 a v (hmj a v h), ?_, ?_⟩, ?_⟩
  · rw [flat_snoc prB (l := l.take 255) (j := j) (by omega), ← List.append_assoc]
  · rw [flat_snoc prB (l := l.take 255) (j := j) (by omega), ← List.append_assoc]; exact C
  · exact Nat.le_of_eq (by show (((min l.length 255 : Nat) : Int) - IntKind.wrap .i64 ((j : Int) + 1)).toNat + 1 = (((min l.length 255 : Nat) : Int) - (j : Int)).toNat; rw [w_i64 (by omega) (by omega)]; omega)
theorem c_r6Put (x : Vw) (hg : 0 ≤ x.g ∧ x.g < 256) (hn : 0 ≤ x.n ∧ x.n < 4294967296) (hi : ∀ p ∈ x.ms, PrW p) (hl : (vwB x.g x.n x.ms).length ≤ 10000000) : Ctr Tryz.prog 77 #[.agg x.row.toArray] (fun m => VwM m x) [] (fun q : Sl => slV q (vwB x.g x.n x.ms).length) (fun _ _ => True) (fun q => [ow q (vwB x.g x.n x.ms)]) := by
  refine Ctr.mk fun w F m C hs => x_r6Put _ _ _ _ _ w _ ?_
  rw [u8V hg]
  simp only [vwB, List.length_append, List.length_singleton] at hl
  refine ⟨[], facts_nil _ _, fun w2 L3 h2 g2 => ?_, fun w2 L3 h2 g2 => ?_⟩
  · refine ⟨facts_nil _ _, ?_⟩
    refine (c_r1Pi x.n ⟨hn.1, lt64 hn.2⟩).call (As := [_]) (ow_lit [u8 x.g] (by simp) (C.hidL h2 g2)) trivial fun q1 m1 w5 hk hm1 _ C => ⟨_, _, _, rfl, hk, facts_nil _ _, ?_⟩
    obtain ⟨q2, c2, w12, hr, hk2, C⟩ := ow_two (Ctx.swap C) (by first | omega | (simp only [List.length_append, List.length_cons, List.length_nil, List.length_singleton] at hl ⊢; omega))
    refine ⟨q2, _, c2, w12, hr, hk2, facts_nil _ _, ?_⟩
    refine (c_r6PutProcs x.q x.ms hi (by omega)).call (As := [_]) C (MSrc.mono hs hm1) fun q3 m3 w17 hk hm3 _ C => ⟨_, _, _, rfl, hk, ?_⟩
    obtain ⟨q4, c4, w24, hr, hk2, C⟩ := ow_two (Ctx.swap C) (by first | omega | (simp only [List.length_append, List.length_cons, List.length_nil, List.length_singleton] at hl ⊢; omega))
    exact ⟨q4, _, c4, w24, hr, hk2, Ctr.ret (m' := m3) (L := L3) (q4, c4) rfl trivial C⟩
  · refine (c_r1Pi x.n ⟨hn.1, lt64 hn.2⟩).call (As := []) (C.hidL h2 g2) trivial fun q1 m1 w5 hk hm1 _ C => ⟨_, _, _, rfl, hk, facts_nil _ _, facts_nil _ _, ?_⟩
    obtain ⟨q2, c2, w12, hr, hk2, C⟩ := ow_two (ow_lit [u8 x.g] (by simp) C) (by first | omega | (simp only [List.length_append, List.length_cons, List.length_nil, List.length_singleton] at hl ⊢; omega))
    refine ⟨q2, _, c2, w12, hr, hk2, facts_nil _ _, ?_⟩
    refine (c_r6PutProcs x.q x.ms hi (by omega)).call (As := [_]) C (MSrc.mono hs hm1) fun q3 m3 w17 hk hm3 _ C => ⟨_, _, _, rfl, hk, ?_⟩
    obtain ⟨q4, c4, w24, hr, hk2, C⟩ := ow_two (Ctx.swap C) (by first | omega | (simp only [List.length_append, List.length_cons, List.length_nil, List.length_singleton] at hl ⊢; omega))
    exact ⟨q4, _, c4, w24, hr, hk2, Ctr.ret (m' := m3) (L := L3) (q4, c4) rfl trivial C⟩
theorem c_r2PutID (x : I) (hx : x.In) (hl : (idB x).length ≤ 10000000) : Ctr Tryz.prog 73 #[x.V] noMem [] (fun q : Sl => slV q (idB x).length) (fun _ _ => True) (fun q => [ow q (idB x)]) := by
  refine Ctr.mk fun w F m C _ => x_r2PutID _ _ _ _ _ _ _ _ _ _ w _ ⟨[], facts_nil _ _, fun w2 L3 h2 g2 => ?_⟩
  simp only [idB, List.length_append, List.length_singleton] at hl
  refine (c_r2PutProc x.n x.l hx.n hx.l).call (As := []) (C.hidL h2 g2) trivial fun q1 m1 w5 hk hm1 _ C => ⟨_, _, _, rfl, hk, facts_nil _ _, ?_⟩
  refine (c_r1Pi x.s ⟨hx.s.1, lt64 hx.s.2⟩).call (As := [_]) C trivial fun q2 m2 w10 hk hm2 _ C => ⟨_, _, _, rfl, hk, facts_nil _ _, ?_⟩
  obtain ⟨q3, c3, w17, hr, hk2, C⟩ := ow_two (Ctx.swap C) (by first | omega | (simp only [List.length_append, List.length_cons, List.length_nil, List.length_singleton] at hl ⊢; omega))
  refine ⟨q3, _, c3, w17, hr, hk2, facts_nil _ _, ?_⟩
  rw [u8V hx.d]
  obtain ⟨q4, c4, w21, hr, hk2, C⟩ := ow_two (Ctx.swap (ow_lit [u8 x.d] (by simp) C)) (by first | omega | (simp only [List.length_append, List.length_cons, List.length_nil, List.length_singleton] at hl ⊢; omega))
  refine ⟨q4, _, c4, w21, hr, hk2, ?_⟩
  have hl3 : (stL x).length = min 3 x.d.toNat := by rw [stL, List.length_take, Nat.min_comm]; rfl
  have hd := hx.d
  have e0 : IntKind.wrap .i64 x.d = x.d := w_i64 (by omega) (by omega)
  rw [e0]
  obtain ⟨base, hbase⟩ : ∃ base, base = putP x.n x.l ++ putU x.s.toNat ++ [u8 x.d] := ⟨_, rfl⟩
  have hid : idB x = base ++ (stL x).flatMap stB := by rw [hbase]; rfl
  have hbl : base.length + ((stL x).flatMap stB).length ≤ 10000000 := by rw [hbase]; simp only [List.length_append, List.length_singleton]; omega
  rw [← hbase] at C ⊢
  rw [hid]
  refine ⟨fun q k c i w' L' => ∃ (j : Nat) (m' : Mem), i = j ∧ j ≤ (stL x).length ∧ m2.le m' ∧ k = (base ++ ((stL x).take j).flatMap stB).length ∧ Ctx F m w w' L' m' [ow (q, c) (base ++ ((stL x).take j).flatMap stB)], fun _ _ _ i _ => (((stL x).length : Int) - i).toNat, ⟨0, m2, rfl, by omega, fun _ _ h => h, by rw [List.take_zero, List.flatMap_nil, List.append_nil], by rw [List.take_zero, List.flatMap_nil, List.append_nil]; exact C⟩, ?_⟩
  clear C
  rintro qa ka ca i wa La _ ⟨j, m', rfl, hj, hmj, rfl, C⟩
  by_cases hjl : j < (stL x).length
  rotate_left
  · rw [if_neg (by simp only [Bool.and_eq_true, decide_eq_true_eq]; omega)]
    have : (stL x).take j = stL x := List.take_of_length_le (by omega)
    rw [this] at C ⊢
    exact Ctr.ret (m' := m') (L := La) (qa, ca) rfl trivial C
  rw [if_pos (by simp only [Bool.and_eq_true, decide_eq_true_eq]; omega)]
  have hle := flat_le stB hjl
  simp only [stB, List.length_append, List.length_singleton] at hle
  refine ⟨[], facts_nil _ _, by omega, by omega, ⟨?_, ?_⟩, ?_⟩
  · exact fun hh => ⟨by omega, by omega, ⟨fun _ wa' La' ha' ga' => by
          have hj0 : j = 0 := by omega
          subst hj0
          have hel : (stL x)[0] = ⟨x.g0, x.i0⟩ := by simp [stL]
          rw [u8V hx.g0, u8V hx.i0]
          refine ⟨facts_nil _ _, ?_⟩
          obtain ⟨q4, c4, w23, hr, hk4, C⟩ := ow_two (Ctx.swap (ow_lit [u8 x.g0, u8 x.i0] (by simp) (C.hidL ha' ga'))) (by simp only [List.length_append, List.length_singleton, List.length_cons, List.length_nil]; omega)
          refine ⟨q4, _, c4, w23, hr, hk4, facts_nil _ _, ?_, ⟨0 + 1, m', by rfl, by omega, hmj, ?_, ?_⟩, Nat.le_of_eq (by show (((stL x).length : Int) - IntKind.wrap .i64 (((0 : Nat) : Int) + 1)).toNat + 1 = (((stL x).length : Int) - ((0 : Nat) : Int)).toNat; rw [w_i64 (by omega) (by omega)]; omega)⟩
          · rw [← u8V hx.g0, ← u8V hx.i0]
          · rw [flat_snoc stB hjl, hel, ← List.append_assoc]; rfl
          · rw [flat_snoc stB hjl, hel, ← List.append_assoc]; exact C, fun h => absurd (h.symm.trans hh) (by decide)⟩, fun h => absurd (h.symm.trans hh) (by decide)⟩
  · exact fun hh => ⟨by omega, by omega, ⟨fun h => absurd (h.symm.trans hh) (by decide), fun _ wa' La' ha' ga' => by
          have hj0 : j = 1 := by omega
          subst hj0
          have hel : (stL x)[1] = ⟨x.g1, x.i1⟩ := by simp [stL]
          rw [u8V hx.g1, u8V hx.i1]
          refine ⟨facts_nil _ _, ?_⟩
          obtain ⟨q4, c4, w23, hr, hk4, C⟩ := ow_two (Ctx.swap (ow_lit [u8 x.g1, u8 x.i1] (by simp) (C.hidL ha' ga'))) (by simp only [List.length_append, List.length_singleton, List.length_cons, List.length_nil]; omega)
          refine ⟨q4, _, c4, w23, hr, hk4, facts_nil _ _, ?_, ⟨1 + 1, m', by rfl, by omega, hmj, ?_, ?_⟩, Nat.le_of_eq (by show (((stL x).length : Int) - IntKind.wrap .i64 (((1 : Nat) : Int) + 1)).toNat + 1 = (((stL x).length : Int) - ((1 : Nat) : Int)).toNat; rw [w_i64 (by omega) (by omega)]; omega)⟩
          · rw [← u8V hx.g1, ← u8V hx.i1]
          · rw [flat_snoc stB hjl, hel, ← List.append_assoc]; rfl
          · rw [flat_snoc stB hjl, hel, ← List.append_assoc]; exact C⟩, fun h => absurd (h.symm.trans hh) (by decide)⟩
  · exact fun hh => ⟨by omega, by omega, ⟨fun h => absurd (h.symm.trans hh) (by decide), fun h => absurd (h.symm.trans hh) (by decide)⟩, fun _ wa' La' ha' ga' => by
          have hj0 : j = 2 := by omega
          subst hj0
          have hel : (stL x)[2] = ⟨x.g2, x.i2⟩ := by simp [stL]
          rw [u8V hx.g2, u8V hx.i2]
          refine ⟨facts_nil _ _, ?_⟩
          obtain ⟨q4, c4, w23, hr, hk4, C⟩ := ow_two (Ctx.swap (ow_lit [u8 x.g2, u8 x.i2] (by simp) (C.hidL ha' ga'))) (by simp only [List.length_append, List.length_singleton, List.length_cons, List.length_nil]; omega)
          refine ⟨q4, _, c4, w23, hr, hk4, facts_nil _ _, ?_, ⟨2 + 1, m', by rfl, by omega, hmj, ?_, ?_⟩, Nat.le_of_eq (by show (((stL x).length : Int) - IntKind.wrap .i64 (((2 : Nat) : Int) + 1)).toNat + 1 = (((stL x).length : Int) - ((2 : Nat) : Int)).toNat; rw [w_i64 (by omega) (by omega)]; omega)⟩
          · rw [← u8V hx.g2, ← u8V hx.i2]
          · rw [flat_snoc stB hjl, hel, ← List.append_assoc]; rfl
          · rw [flat_snoc stB hjl, hel, ← List.append_assoc]; exact C⟩
end Go.Proofs
namespace Go.Proofs
open Go X RowKit
theorem c_r5Put_0 (e : En) (hk0 : e.er.kd = 0) (hi : EvIn e.er) (hl : (evB e.er).length ≤ 10000000) : Ctr Tryz.prog 132 #[.agg e.row.toArray] (fun m => EnM m e) [] (fun q : Sl => slV q (evB e.er).length) (fun _ _ => True) (fun q => [ow q (evB e.er)]) := by
  refine Ctr.mk fun w F m C hs => x_r5Put _ _ _ _ _ _ _ _ _ _ _ _ _ _ _ _ _ _ _ _ _ _ w _ fun w1 L2 h1 g1 => ?_
  have hk1 : e.kd = 0 := hk0
  have eb : evB e.er = [u8 e.kd] ++ (idB e.id ++ putU e.fl.toNat ++ listB ptB e.ps) := evB0 hk0
  rw [eb] at hl ⊢
  have hkd : 0 ≤ e.kd ∧ e.kd < 256 := hi.kd
  rw [u8V hkd]
  repeat (first | rw [if_pos (by rw [hk1]; decide)] | rw [if_neg (by rw [hk1]; decide)])
  replace C := ow_lit [u8 e.kd] (by simp) (C.hidL h1 g1)
  refine ⟨[], facts_nil _ _, fun wa La ha ga => ?_⟩
  replace C := C.hidL ha ga
  refine (c_r2PutID e.id hi.id (by first | omega | (simp only [List.length_append, List.length_cons, List.length_nil, List.length_singleton] at hl ⊢; omega))).call (As := [_]) C trivial fun q1 m1 w1 hk hm1 _ C => ⟨_, _, _, rfl, hk, facts_nil _ _, ?_⟩
  obtain ⟨q2, c2, w2, hr, hk2, C⟩ := ow_two (Ctx.swap C) (by first | omega | (simp only [List.length_append, List.length_cons, List.length_nil, List.length_singleton] at hl ⊢; omega))
  refine ⟨q2, _, c2, w2, hr, hk2, facts_nil _ _, ?_⟩
  refine (c_r1Pi e.fl ⟨hi.fl.1, lt64 hi.fl.2⟩).call (As := [_]) C trivial fun q3 m3 w3 hk hm3 _ C => ⟨_, _, _, rfl, hk, facts_nil _ _, ?_⟩
  obtain ⟨q4, c4, w4, hr, hk2, C⟩ := ow_two (Ctx.swap C) (by first | omega | (simp only [List.length_append, List.length_cons, List.length_nil, List.length_singleton] at hl ⊢; omega))
  refine ⟨q4, _, c4, w4, hr, hk2, facts_nil _ _, ?_⟩
  refine (c_r3PutAll e.pq e.ps hi.ps (by first | omega | (simp only [List.length_append, List.length_cons, List.length_nil, List.length_singleton] at hl ⊢; omega))).call (As := [_]) C ((hs.p.mono hm1).mono hm3) fun q5 m5 w5 hk hm5 _ C => ⟨_, _, _, rfl, hk, ?_⟩
  obtain ⟨q6, c6, w6, hr, hk2, C⟩ := ow_two (Ctx.swap C) (by first | omega | (simp only [List.length_append, List.length_cons, List.length_nil, List.length_singleton] at hl ⊢; omega))
  refine ⟨q6, _, c6, w6, hr, hk2, ?_⟩
  repeat (first | rw [if_pos (by rw [hk1]; decide)] | rw [if_neg (by rw [hk1]; decide)])
  exact Ctr.ret (q6, c6) (by simp only [List.append_assoc]) trivial (by simp only [← List.append_assoc] at C ⊢; exact C)
theorem c_r5Put_1 (e : En) (hk0 : e.er.kd = 1) (hi : EvIn e.er) (hl : (evB e.er).length ≤ 10000000) : Ctr Tryz.prog 132 #[.agg e.row.toArray] (fun m => EnM m e) [] (fun q : Sl => slV q (evB e.er).length) (fun _ _ => True) (fun q => [ow q (evB e.er)]) := by
  refine Ctr.mk fun w F m C hs => x_r5Put _ _ _ _ _ _ _ _ _ _ _ _ _ _ _ _ _ _ _ _ _ _ w _ fun w1 L2 h1 g1 => ?_
  have hk1 : e.kd = 1 := hk0
  have eb : evB e.er = [u8 e.kd] ++ (idB e.id ++ resB e.rc e.rv) := evB1 hk0
  rw [eb] at hl ⊢
  have hkd : 0 ≤ e.kd ∧ e.kd < 256 := hi.kd
  rw [u8V hkd]
  repeat (first | rw [if_pos (by rw [hk1]; decide)] | rw [if_neg (by rw [hk1]; decide)])
  replace C := ow_lit [u8 e.kd] (by simp) (C.hidL h1 g1)
  refine ⟨[], facts_nil _ _, fun wa La ha ga => ?_⟩
  replace C := C.hidL ha ga
  refine (c_r2PutID e.id hi.id (by first | omega | (simp only [List.length_append, List.length_cons, List.length_nil, List.length_singleton] at hl ⊢; omega))).call (As := [_]) C trivial fun q1 m1 w1 hk hm1 _ C => ⟨_, _, _, rfl, hk, facts_nil _ _, ?_⟩
  obtain ⟨q2, c2, w2, hr, hk2, C⟩ := ow_two (Ctx.swap C) (by first | omega | (simp only [List.length_append, List.length_cons, List.length_nil, List.length_singleton] at hl ⊢; omega))
  refine ⟨q2, _, c2, w2, hr, hk2, facts_nil _ _, ?_⟩
  refine (c_r3PutRes e.rc e.rv hi.rc (by first | omega | (simp only [List.length_append, List.length_cons, List.length_nil, List.length_singleton] at hl ⊢; omega))).call (As := [_]) C trivial fun q3 m3 w3 hk hm3 _ C => ⟨_, _, _, rfl, hk, facts_nil _ _, ?_⟩
  obtain ⟨q4, c4, w4, hr, hk2, C⟩ := ow_two (Ctx.swap C) (by first | omega | (simp only [List.length_append, List.length_cons, List.length_nil, List.length_singleton] at hl ⊢; omega))
  refine ⟨q4, _, c4, w4, hr, hk2, facts_nil _ _, ?_⟩
  exact Ctr.ret (q4, c4) (by simp only [List.append_assoc]) trivial (by simp only [← List.append_assoc] at C ⊢; exact C)
theorem c_r5Put_2 (e : En) (hk0 : e.er.kd = 2) (hi : EvIn e.er) (hl : (evB e.er).length ≤ 10000000) : Ctr Tryz.prog 132 #[.agg e.row.toArray] (fun m => EnM m e) [] (fun q : Sl => slV q (evB e.er).length) (fun _ _ => True) (fun q => [ow q (evB e.er)]) := by
  refine Ctr.mk fun w F m C hs => x_r5Put _ _ _ _ _ _ _ _ _ _ _ _ _ _ _ _ _ _ _ _ _ _ w _ fun w1 L2 h1 g1 => ?_
  have hk1 : e.kd = 2 := hk0
  have eb : evB e.er = [u8 e.kd] ++ putP e.vn e.vl := evB2 hk0
  rw [eb] at hl ⊢
  have hkd : 0 ≤ e.kd ∧ e.kd < 256 := hi.kd
  rw [u8V hkd]
  repeat (first | rw [if_pos (by rw [hk1]; decide)] | rw [if_neg (by rw [hk1]; decide)])
  replace C := ow_lit [u8 e.kd] (by simp) (C.hidL h1 g1)
  refine (c_r2PutProc e.vn e.vl hi.vn hi.vl).call (As := [_]) C trivial fun q1 m1 w1 hk hm1 _ C => ⟨_, _, _, rfl, hk, ?_⟩
  obtain ⟨q2, c2, w2, hr, hk2, C⟩ := ow_two (Ctx.swap C) (by first | omega | (simp only [List.length_append, List.length_cons, List.length_nil, List.length_singleton] at hl ⊢; omega))
  refine ⟨q2, _, c2, w2, hr, hk2, ?_⟩
  exact Ctr.ret (q2, c2) rfl trivial C
theorem c_r5Put_x (e : En) (hk0 : e.er.kd ≠ 0 ∧ e.er.kd ≠ 1 ∧ e.er.kd ≠ 2 ∧ e.er.kd ≠ 3) (hi : EvIn e.er) (hl : (evB e.er).length ≤ 10000000) : Ctr Tryz.prog 132 #[.agg e.row.toArray] (fun m => EnM m e) [] (fun q : Sl => slV q (evB e.er).length) (fun _ _ => True) (fun q => [ow q (evB e.er)]) := by
  refine Ctr.mk fun w F m C hs => x_r5Put _ _ _ _ _ _ _ _ _ _ _ _ _ _ _ _ _ _ _ _ _ _ w _ fun w1 L2 h1 g1 => ?_
  have eb : evB e.er = [u8 e.kd] := evBx hk0.1 hk0.2.1 hk0.2.2.1 hk0.2.2.2
  obtain ⟨k0, k1, k2, k3⟩ := hk0
  replace k0 : e.kd ≠ 0 := k0
  replace k1 : e.kd ≠ 1 := k1
  replace k2 : e.kd ≠ 2 := k2
  replace k3 : e.kd ≠ 3 := k3
  rw [eb]
  have hkd : 0 ≤ e.kd ∧ e.kd < 256 := hi.kd
  rw [if_neg (by simpa using k0), if_neg (by simpa using k3), if_neg (by simpa using k1), if_neg (by simpa using k2)]
  rw [u8V hkd]
  exact Ctr.ret (some ⟨w1.heap.size, 0, none⟩, 1) rfl trivial (ow_lit [u8 e.kd] (by simp) (C.hidL h1 g1))
theorem c_r5Put_3 (e : En) (hk0 : e.er.kd = 3) (hi : EvIn e.er) (hl : (evB e.er).length ≤ 10000000) : Ctr Tryz.prog 132 #[.agg e.row.toArray] (fun m => EnM m e) [] (fun q : Sl => slV q (evB e.er).length) (fun _ _ => True) (fun q => [ow q (evB e.er)]) := by
  refine Ctr.mk fun w F m C hs => x_r5Put _ _ _ _ _ _ _ _ _ _ _ _ _ _ _ _ _ _ _ _ _ _ w _ fun w1 L2 h1 g1 => ?_
  have hk1 : e.kd = 3 := hk0
  have eb : evB e.er = [u8 e.kd] ++ (idB e.id ++ putU e.fl.toNat ++ listB ptB e.ps ++ (resB e.rc e.rv ++ listB wrB e.ws)) := evB3 hk0
  rw [eb] at hl ⊢
  have hkd : 0 ≤ e.kd ∧ e.kd < 256 := hi.kd
  rw [u8V hkd]
  repeat (first | rw [if_pos (by rw [hk1]; decide)] | rw [if_neg (by rw [hk1]; decide)])
  replace C := ow_lit [u8 e.kd] (by simp) (C.hidL h1 g1)
  refine ⟨[], facts_nil _ _, fun wa La ha ga => ?_⟩
  replace C := C.hidL ha ga
  refine (c_r2PutID e.id hi.id (by first | omega | (simp only [List.length_append, List.length_cons, List.length_nil, List.length_singleton] at hl ⊢; omega))).call (As := [_]) C trivial fun q1 m1 w1 hk hm1 _ C => ⟨_, _, _, rfl, hk, facts_nil _ _, ?_⟩
  obtain ⟨q2, c2, w2, hr, hk2, C⟩ := ow_two (Ctx.swap C) (by first | omega | (simp only [List.length_append, List.length_cons, List.length_nil, List.length_singleton] at hl ⊢; omega))
  refine ⟨q2, _, c2, w2, hr, hk2, facts_nil _ _, ?_⟩
  refine (c_r1Pi e.fl ⟨hi.fl.1, lt64 hi.fl.2⟩).call (As := [_]) C trivial fun q3 m3 w3 hk hm3 _ C => ⟨_, _, _, rfl, hk, facts_nil _ _, ?_⟩
  obtain ⟨q4, c4, w4, hr, hk2, C⟩ := ow_two (Ctx.swap C) (by first | omega | (simp only [List.length_append, List.length_cons, List.length_nil, List.length_singleton] at hl ⊢; omega))
  refine ⟨q4, _, c4, w4, hr, hk2, facts_nil _ _, ?_⟩
  refine (c_r3PutAll e.pq e.ps hi.ps (by first | omega | (simp only [List.length_append, List.length_cons, List.length_nil, List.length_singleton] at hl ⊢; omega))).call (As := [_]) C ((hs.p.mono hm1).mono hm3) fun q5 m5 w5 hk hm5 _ C => ⟨_, _, _, rfl, hk, ?_⟩
  obtain ⟨q6, c6, w6, hr, hk2, C⟩ := ow_two (Ctx.swap C) (by first | omega | (simp only [List.length_append, List.length_cons, List.length_nil, List.length_singleton] at hl ⊢; omega))
  refine ⟨q6, _, c6, w6, hr, hk2, ?_⟩
  repeat (first | rw [if_pos (by rw [hk1]; decide)] | rw [if_neg (by rw [hk1]; decide)])
  refine (c_r3PutRes e.rc e.rv hi.rc (by first | omega | (simp only [List.length_append, List.length_cons, List.length_nil, List.length_singleton] at hl ⊢; omega))).call (As := [_]) C trivial fun q7 m7 w7 hk hm7 _ C => ⟨_, _, _, rfl, hk, ?_⟩
  obtain ⟨q8, c8, w8, hr, hk2, C⟩ := ow_two (Ctx.swap C) (by first | omega | (simp only [List.length_append, List.length_cons, List.length_nil, List.length_singleton] at hl ⊢; omega))
  refine ⟨q8, _, c8, w8, hr, hk2, ?_⟩
  rw [ofMinI, min255]
  have hlw : (listB wrB e.ws).length = 1 + ((e.ws.take 255).flatMap wrB).length := by rw [listB, List.length_append]; rfl
  simp only [List.length_append, List.length_singleton, hlw] at hl
  obtain ⟨q9, c9, w9, hr, hk2, C⟩ := ow_two (Ctx.swap (ow_lit [UInt8.ofNat (min e.ws.length 255)] (by simp) C)) (by simp only [List.length_append, List.length_singleton]; omega)
  refine ⟨q9, _, c9, w9, hr, hk2, ?_⟩
  have hs : MSrc m7 3 (slV e.wq e.ws.length) e.ws.length (e.ws.flatMap Wr.row) := (((hs.w.mono hm1).mono hm3).mono hm5).mono hm7
  obtain ⟨base, hbase⟩ : ∃ base, base = [u8 e.kd] ++ idB e.id ++ putU e.fl.toNat ++ listB ptB e.ps ++ resB e.rc e.rv ++ [UInt8.ofNat (min e.ws.length 255)] := ⟨_, rfl⟩
  have hid : [u8 e.kd] ++ (idB e.id ++ putU e.fl.toNat ++ listB ptB e.ps ++ (resB e.rc e.rv ++ listB wrB e.ws)) = base ++ (e.ws.take 255).flatMap wrB := by rw [hbase]; simp only [listB, List.append_assoc]
  have hbl : base.length + ((e.ws.take 255).flatMap wrB).length ≤ 10000000 := by rw [hbase]; simp only [List.length_append, List.length_singleton]; omega
  simp only [← List.append_assoc] at C ⊢
  rw [← hbase] at C ⊢
  have hid2 : [u8 e.kd] ++ idB e.id ++ putU e.fl.toNat ++ listB ptB e.ps ++ resB e.rc e.rv ++ listB wrB e.ws = base ++ (e.ws.take 255).flatMap wrB := by rw [← hid]; simp only [List.append_assoc]
  rw [hid2]
  refine ⟨fun q k c i w' L' => ∃ (j : Nat) (m' : Mem), i = j ∧ j ≤ min e.ws.length 255 ∧ m7.le m' ∧ k = (base ++ ((e.ws.take 255).take j).flatMap wrB).length ∧ Ctx F m w w' L' m' [ow (q, c) (base ++ ((e.ws.take 255).take j).flatMap wrB)], fun _ _ _ i _ => (((min e.ws.length 255 : Nat) : Int) - i).toNat, ⟨0, m7, rfl, by omega, fun _ _ h => h, by rw [List.take_zero, List.flatMap_nil, List.append_nil], by rw [List.take_zero, List.flatMap_nil, List.append_nil]; exact C⟩, ?_⟩
  clear C
  rintro qa ka ca i wb Lb _ ⟨j, m', rfl, hj, hmj, rfl, C⟩
  have htl : (e.ws.take 255).length = min e.ws.length 255 := by rw [List.length_take, Nat.min_comm]
  by_cases hjl : j < min e.ws.length 255
  rotate_left
  · rw [if_neg (by simp only [decide_eq_true_eq]; omega)]
    have : (e.ws.take 255).take j = e.ws.take 255 := List.take_of_length_le (by omega)
    rw [this] at C ⊢
    exact Ctr.ret (m' := m') (L := Lb) (qa, ca) rfl trivial C
  rw [if_pos (by simp only [decide_eq_true_eq]; omega)]
  have hle := flat_le wrB (l := e.ws.take 255) (j := j) (by omega)
  obtain ⟨a, ha, hc⟩ := msrc_255 wr_len (hs.mono hmj) hjl
  refine ⟨by omega, by omega, ?_⟩
  rw [ha, onSome_some, Int.toNat_natCast]
  refine ⟨_, _, _, C.cells hc, C.cellsL hc, [], facts_nil _ _, fun wc Lc hc gc => ?_⟩
  generalize hx : (e.ws.take 255)[j]'(by omega) = x at hle
  simp only [wrB, List.length_append, List.length_singleton] at hle
  refine (c_r1Ti x.key (by omega)).call (As := [_]) (C.hidL hc gc) trivial fun q3 m3 w16 hk hm3 _ C => ⟨_, _, _, rfl, hk, facts_nil _ _, ?_⟩
  obtain ⟨q4, c4, w23, hr, hk4, C⟩ := ow_two (Ctx.swap C) (by simp only [List.length_append, List.length_singleton]; omega)
  refine ⟨q4, _, c4, w23, hr, hk4, facts_nil _ _, ?_⟩
  refine (c_r1Ti x.val (by omega)).call (As := [_]) C trivial fun q5 m5 w17 hk hm5 _ C => ⟨_, _, _, rfl, hk, facts_nil _ _, ?_⟩
  obtain ⟨q7, c7, w24, hr, hk7, C⟩ := ow_two (Ctx.swap C) (by simp only [List.length_append, List.length_singleton]; omega)
  refine ⟨q7, _, c7, w24, hr, hk7, facts_nil _ _, ?_⟩
  by_cases hh : x.has = true
  · have hw9 : wrB ((e.ws.take 255)[j]'(by omega)) = textB x.key ++ textB x.val ++ [1] := by rw [hx, wrB, hh]; rfl
    rw [if_pos hh]
    obtain ⟨q6, c6, w6, hr, hk6, C⟩ := ow_two (Ctx.swap (ow_lit [1] (by simp) C)) (by simp only [List.length_append, List.length_singleton]; omega)
    refine ⟨q6, _, c6, w6, hr, hk6, ?_, ⟨j + 1, m5, by rw [w_i64 (by omega) (by omega)]; omega, by omega, fun a v h => hm5 a v (hm3 a v (hmj a v h)), ?_, ?_⟩, ?_⟩
    · trivial
    · rw [flat_snoc wrB (l := e.ws.take 255) (j := j) (by omega), ← List.append_assoc, hw9]; simp only [← List.append_assoc]
    · rw [flat_snoc wrB (l := e.ws.take 255) (j := j) (by omega), ← List.append_assoc, hw9]; simp only [← List.append_assoc] at C ⊢; exact C
    · exact Nat.le_of_eq (by show (((min e.ws.length 255 : Nat) : Int) - IntKind.wrap .i64 ((j : Int) + 1)).toNat + 1 = (((min e.ws.length 255 : Nat) : Int) - (j : Int)).toNat; rw [w_i64 (by omega) (by omega)]; omega)
  · have hw9 : wrB ((e.ws.take 255)[j]'(by omega)) = textB x.key ++ textB x.val ++ [0] := by rw [hx, wrB, Bool.eq_false_iff.2 hh]; rfl
    rw [if_neg hh]
    obtain ⟨q6, c6, w6, hr, hk6, C⟩ := ow_two (Ctx.swap (ow_lit [0] (by simp) C)) (by simp only [List.length_append, List.length_singleton]; omega)
    refine ⟨q6, _, c6, w6, hr, hk6, ?_, ⟨j + 1, m5, by rw [w_i64 (by omega) (by omega)]; omega, by omega, fun a v h => hm5 a v (hm3 a v (hmj a v h)), ?_, ?_⟩, ?_⟩
    · trivial
    · rw [flat_snoc wrB (l := e.ws.take 255) (j := j) (by omega), ← List.append_assoc, hw9]; simp only [← List.append_assoc]
    · rw [flat_snoc wrB (l := e.ws.take 255) (j := j) (by omega), ← List.append_assoc, hw9]; simp only [← List.append_assoc] at C ⊢; exact C
    · exact Nat.le_of_eq (by show (((min e.ws.length 255 : Nat) : Int) - IntKind.wrap .i64 ((j : Int) + 1)).toNat + 1 = (((min e.ws.length 255 : Nat) : Int) - (j : Int)).toNat; rw [w_i64 (by omega) (by omega)]; omega)
theorem c_r5Put (e : En) (hi : EvIn e.er) (hl : (evB e.er).length ≤ 10000000) : Ctr Tryz.prog 132 #[.agg e.row.toArray] (fun m => EnM m e) [] (fun q : Sl => slV q (evB e.er).length) (fun _ _ => True) (fun q => [ow q (evB e.er)]) := by
  by_cases k0 : e.er.kd = 0
  · exact c_r5Put_0 e k0 hi hl
  by_cases k1 : e.er.kd = 1
  · exact c_r5Put_1 e k1 hi hl
  by_cases k2 : e.er.kd = 2
  · exact c_r5Put_2 e k2 hi hl
  by_cases k3 : e.er.kd = 3
  · exact c_r5Put_3 e k3 hi hl
  exact c_r5Put_x e ⟨k0, k1, k2, k3⟩ hi hl
end Go.Proofs
namespace Go.Proofs
open Go X RowKit
theorem c_r5PutAll (q : Sl) (l : List En) (hi : ∀ e ∈ l, EvIn e.er) (hn : l.length ≤ 100000) (hl : (evsB (l.map En.er)).length ≤ 10000000) : Ctr Tryz.prog 78 #[slV q l.length] (fun m => EsM m q l) [] (fun q : Sl => slV q (evsB (l.map En.er)).length) (fun _ _ => True) (fun q => [ow q (evsB (l.map En.er))]) := by
  refine Ctr.mk fun w F m C hs => x_r5PutAll _ _ _ w _ ?_
  simp only [evsB, List.length_append, List.length_map] at hl
  refine (c_r1Pi ((l.length : Nat) : Int) ⟨by omega, by omega⟩).call (As := []) C trivial fun q1 m0 w2 hk hm0 _ C => ⟨_, _, _, rfl, hk.size, ?_⟩
  rw [Int.toNat_natCast] at C ⊢
  replace hs : EsM m0 q l := EsM.mono hs hm0
  have hres : evsB (l.map En.er) = putU l.length ++ (l.map En.er).flatMap evB := by rw [evsB, List.length_map]
  rw [hres]
  refine ⟨fun q k c i w' L' => ∃ (j : Nat) (m' : Mem), i = j ∧ j ≤ l.length ∧ m0.le m' ∧ k = (putU l.length ++ ((l.map En.er).take j).flatMap evB).length ∧ Ctx F m w w' L' m' [ow (q, c) (putU l.length ++ ((l.map En.er).take j).flatMap evB)], fun _ _ _ i _ => ((l.length : Int) - i).toNat, ⟨0, m0, rfl, by omega, fun _ _ h => h, by rw [List.take_zero, List.flatMap_nil, List.append_nil], by rw [List.take_zero, List.flatMap_nil, List.append_nil]; exact C.noL⟩, ?_⟩
  clear C
  rintro qa ka ca i wa La _ ⟨j, m', rfl, hj, hmj, rfl, C⟩
  by_cases hjl : j < l.length
  rotate_left
  · rw [if_neg (by simp only [decide_eq_true_eq]; omega)]
    have : (l.map En.er).take j = l.map En.er := List.take_of_length_le (by rw [List.length_map]; omega)
    rw [this] at C ⊢
    exact Ctr.ret (m' := m') (L := La) (qa, ca) rfl trivial C
  rw [if_pos (by simp only [decide_eq_true_eq]; omega)]
  have hle := flat_le evB (l := l.map En.er) (j := j) (by rw [List.length_map]; exact hjl)
  rw [List.getElem_map] at hle
  have hsj := EsM.mono hs hmj
  obtain ⟨a, ha, hcl⟩ := hsj.1.elem en_len hjl
  have hmem := List.getElem_mem hjl
  refine ⟨by omega, by omega, ?_⟩
  rw [ha, onSome_some, Int.toNat_natCast]
  refine ⟨_, _, _, _, _, _, _, _, _, _, _, _, _, _, _, _, _, _, _, _, _, _, C.cells hcl, ?_⟩
  refine (c_r5Put l[j] (hi _ hmem) (by omega)).call (As := [_]) C.noL (hsj.2 _ hmem) fun q2 m2 w16 hk hm2 _ C => ⟨_, _, _, rfl, hk.size, ?_⟩
  obtain ⟨q4, c4, w23, hr, hk4, C⟩ := ow_two (Ctx.swap C) (by simp only [List.length_append]; omega)
  refine ⟨q4, _, c4, w23, hr, hk4.size, ⟨j + 1, m2, by rw [w_i64 (by omega) (by omega)]; omega, by omega, fun a v h => hm2 a v (hmj a v h), ?_, ?_⟩, ?_⟩
  · rw [flat_snoc evB (l := l.map En.er) (j := j) (by rw [List.length_map]; exact hjl), ← List.append_assoc, List.getElem_map]
  · rw [flat_snoc evB (l := l.map En.er) (j := j) (by rw [List.length_map]; exact hjl), ← List.append_assoc, List.getElem_map]; exact C
  · exact Nat.le_of_eq (by show ((l.length : Int) - IntKind.wrap .i64 ((j : Int) + 1)).toNat + 1 = ((l.length : Int) - (j : Int)).toNat; rw [w_i64 (by omega) (by omega)]; omega)
def ltB (x : Mv) (f : Int) : List UInt8 :=
  if f = 103 then [u8 x.gr]
  else if f = 105 then idB x.id
  else if f = 102 then putU x.fl.toNat
  else if f = 112 then listB ptB x.ps
  else if f = 114 then resB x.rc x.rv
  else if f = 118 then vwB x.vg x.vn x.vm
  else if f = 99 then [u8 x.co]
  else if f = 110 then putU x.nn.toNat
  else if f = 97 then putU x.fr.toNat
  else if f = 107 then putU x.cm.toNat
  else if f = 101 then evsB x.es
  else if f = 98 then putU x.ba.toNat
  else if f = 104 then [flagB x.has]
  else if f = 120 then putU x.ac.toNat
  else if f = 109 then valB x.ms x.ts
  else if f = 115 then putP x.pn x.pl
  else []
theorem c_r1Pd (n : Int) (hn : 0 ≤ n ∧ n < 18446744073709551616) : Ctr Tryz.prog 74 #[.int .u64 n] noMem [] (fun q : Sl => slV q (putU n.toNat).length) (fun _ _ => True) (fun q => [ow q (putU n.toNat)]) := by
  have := c_r1Put n.toNat (by omega)
  rwa [natI hn.1] at this
theorem c_r7put (x : Mg) (f : Int) (hi : MvF x.er) (hl : (ltB x.er f).length ≤ 10000000) : Ctr Tryz.prog 32 #[.agg x.row.toArray, .int .u8 f] (fun m => MgM m x) [] (fun q : Sl => slV q (ltB x.er f).length) (fun _ _ => True) (fun q => [ow q (ltB x.er f)]) := by
  refine Ctr.mk fun w F m C hs => x_r7put _ _ _ _ _ _ _ _ _ _ _ _ _ _ _ _ _ _ _ _ _ _ _ _ _ _ _ _ _ _ _ _ _ _ _ _ _ _ _ _ _ _ w _ ?_
  unfold ltB at hl ⊢
  by_cases h103 : f = 103
  · rw [if_pos (by simp [h103])]
    rw [if_pos h103] at hl ⊢
    intro wa La ha ga
    have hr : 0 ≤ x.gr ∧ x.gr < 256 := hi.gr
    rw [u8V hr]
    exact Ctr.ret (some ⟨wa.heap.size, 0, none⟩, 1) rfl trivial (ow_lit [u8 x.gr] (by simp) (C.hidL ha ga))
  rw [if_neg (by simp [h103])]
  rw [if_neg h103] at hl ⊢
  by_cases h105 : f = 105
  · rw [if_pos (by simp [h105])]
    rw [if_pos h105] at hl ⊢
    intro wa La ha ga
    exact (c_r2PutID x.id hi.id hl).call (As := []) (C.hidL ha ga) (trivial) fun q1 m1 w3 hk hm1 _ C => ⟨_, _, _, rfl, hk, Ctr.ret q1 rfl trivial C⟩
  rw [if_neg (by simp [h105])]
  rw [if_neg h105] at hl ⊢
  by_cases h102 : f = 102
  · rw [if_pos (by simp [h102])]
    rw [if_pos h102] at hl ⊢
    intro wa La ha ga
    exact (c_r1Pi x.fl ⟨hi.fl.1, lt64 hi.fl.2⟩).call (As := []) (C.hidL ha ga) (trivial) fun q1 m1 w3 hk hm1 _ C => ⟨_, _, _, rfl, hk, Ctr.ret q1 rfl trivial C⟩
  rw [if_neg (by simp [h102])]
  rw [if_neg h102] at hl ⊢
  by_cases h112 : f = 112
  · rw [if_pos (by simp [h112])]
    rw [if_pos h112] at hl ⊢
    intro wa La ha ga
    exact (c_r3PutAll x.pq x.ps hi.ps hl).call (As := []) (C.hidL ha ga) (hs.p) fun q1 m1 w3 hk hm1 _ C => ⟨_, _, _, rfl, hk, Ctr.ret q1 rfl trivial C⟩
  rw [if_neg (by simp [h112])]
  rw [if_neg h112] at hl ⊢
  by_cases h114 : f = 114
  · rw [if_pos (by simp [h114])]
    rw [if_pos h114] at hl ⊢
    intro wa La ha ga
    exact (c_r3PutRes x.rc x.rv hi.rc hl).call (As := []) (C.hidL ha ga) (trivial) fun q1 m1 w3 hk hm1 _ C => ⟨_, _, _, rfl, hk, Ctr.ret q1 rfl trivial C⟩
  rw [if_neg (by simp [h114])]
  rw [if_neg h114] at hl ⊢
  by_cases h118 : f = 118
  · rw [if_pos (by simp [h118])]
    rw [if_pos h118] at hl ⊢
    intro wa La ha ga
    exact (c_r6Put ⟨x.vg, x.vn, x.vq, x.vm⟩ hi.vg ⟨hi.vn, hi.vn32⟩ hi.vmW hl).call (As := []) (C.hidL ha ga) (hs.v) fun q1 m1 w3 hk hm1 _ C => ⟨_, _, _, rfl, hk, Ctr.ret q1 rfl trivial C⟩
  rw [if_neg (by simp [h118])]
  rw [if_neg h118] at hl ⊢
  by_cases h99 : f = 99
  · rw [if_pos (by simp [h99])]
    rw [if_pos h99] at hl ⊢
    intro wa La ha ga
    have hr : 0 ≤ x.co ∧ x.co < 256 := hi.co
    rw [u8V hr]
    exact Ctr.ret (some ⟨wa.heap.size, 0, none⟩, 1) rfl trivial (ow_lit [u8 x.co] (by simp) (C.hidL ha ga))
  rw [if_neg (by simp [h99])]
  rw [if_neg h99] at hl ⊢
  by_cases h110 : f = 110
  · rw [if_pos (by simp [h110])]
    rw [if_pos h110] at hl ⊢
    intro wa La ha ga
    exact (c_r1Pi x.nn hi.nn).call (As := []) (C.hidL ha ga) (trivial) fun q1 m1 w3 hk hm1 _ C => ⟨_, _, _, rfl, hk, Ctr.ret q1 rfl trivial C⟩
  rw [if_neg (by simp [h110])]
  rw [if_neg h110] at hl ⊢
  by_cases h97 : f = 97
  · rw [if_pos (by simp [h97])]
    rw [if_pos h97] at hl ⊢
    intro wa La ha ga
    exact (c_r1Pi x.fr ⟨hi.fr.1, lt64 hi.fr.2⟩).call (As := []) (C.hidL ha ga) (trivial) fun q1 m1 w3 hk hm1 _ C => ⟨_, _, _, rfl, hk, Ctr.ret q1 rfl trivial C⟩
  rw [if_neg (by simp [h97])]
  rw [if_neg h97] at hl ⊢
  by_cases h107 : f = 107
  · rw [if_pos (by simp [h107])]
    rw [if_pos h107] at hl ⊢
    intro wa La ha ga
    exact (c_r1Pi x.cm ⟨hi.cm.1, lt64 hi.cm.2⟩).call (As := []) (C.hidL ha ga) (trivial) fun q1 m1 w3 hk hm1 _ C => ⟨_, _, _, rfl, hk, Ctr.ret q1 rfl trivial C⟩
  rw [if_neg (by simp [h107])]
  rw [if_neg h107] at hl ⊢
  by_cases h101 : f = 101
  · rw [if_pos (by simp [h101])]
    rw [if_pos h101] at hl ⊢
    intro wa La ha ga
    exact (c_r5PutAll x.eq x.es (fun e he => hi.es _ (List.mem_map_of_mem he)) hs.el hl).call (As := []) (C.hidL ha ga) (hs.e) fun q1 m1 w3 hk hm1 _ C => ⟨_, _, _, rfl, hk, Ctr.ret q1 rfl trivial C⟩
  rw [if_neg (by simp [h101])]
  rw [if_neg h101] at hl ⊢
  by_cases h98 : f = 98
  · rw [if_pos (by simp [h98])]
    rw [if_pos h98] at hl ⊢
    intro wa La ha ga
    exact (c_r1Pd x.ba hi.ba).call (As := []) (C.hidL ha ga) (trivial) fun q1 m1 w3 hk hm1 _ C => ⟨_, _, _, rfl, hk, Ctr.ret q1 rfl trivial C⟩
  rw [if_neg (by simp [h98])]
  rw [if_neg h98] at hl ⊢
  by_cases h104 : f = 104
  · rw [if_pos (by simp [h104])]
    rw [if_pos h104] at hl ⊢
    intro wa La ha ga
    refine (C.hidL ha ga).gives (c_r7flag x.has) fun w3 k3 C => ⟨_, rfl, k3, ?_⟩
    exact Ctr.ret (some ⟨w3.heap.size, 0, none⟩, 1) rfl trivial (ow_lit [flagB x.has] (by simp) C)
  rw [if_neg (by simp [h104])]
  rw [if_neg h104] at hl ⊢
  by_cases h120 : f = 120
  · rw [if_pos (by simp [h120])]
    rw [if_pos h120] at hl ⊢
    intro wa La ha ga
    exact (c_r1Pd x.ac hi.ac).call (As := []) (C.hidL ha ga) (trivial) fun q1 m1 w3 hk hm1 _ C => ⟨_, _, _, rfl, hk, Ctr.ret q1 rfl trivial C⟩
  rw [if_neg (by simp [h120])]
  rw [if_neg h120] at hl ⊢
  by_cases h109 : f = 109
  · rw [if_pos (by simp [h109])]
    rw [if_pos h109] at hl ⊢
    simp only [valB, List.length_append] at hl
    refine ⟨[], facts_nil _ _, fun wa La ha ga => ?_⟩
    refine (c_r6PutProcs x.mq x.ms hi.msW (by show (listB prB x.er.ms).length ≤ _; omega)).call (As := []) (C.hidL ha ga) hs.mm fun q1 m1 w13 hk hm1 _ C => ⟨_, _, _, rfl, hk, facts_nil _ _, ?_⟩
    refine (c_r5PutAll x.tq x.ts (fun e he => hi.ts _ (List.mem_map_of_mem he)) hs.tl (by show (evsB x.er.ts).length ≤ _; omega)).call (As := [_]) C (hs.t.mono hm1) fun q2 m2 w18 hk hm2 _ C => ⟨_, _, _, rfl, hk, facts_nil _ _, ?_⟩
    obtain ⟨q4, c4, w23, hr, hk4, C⟩ := ow_two (Ctx.swap C) (by show (listB prB x.er.ms).length + (evsB x.er.ts).length ≤ _; omega)
    exact ⟨q4, _, c4, w23, hr, hk4, facts_nil _ _, Ctr.ret (q4, c4) rfl trivial C⟩
  rw [if_neg (by simp [h109])]
  rw [if_neg h109] at hl ⊢
  by_cases h115 : f = 115
  · rw [if_pos (by simp [h115])]
    rw [if_pos h115] at hl ⊢
    intro wa La ha ga
    exact (c_r2PutProc x.pn x.pl hi.pn hi.pl).call (As := []) (C.hidL ha ga) (trivial) fun q1 m1 w3 hk hm1 _ C => ⟨_, _, _, rfl, hk, Ctr.ret q1 rfl trivial C⟩
  rw [if_neg (by simp [h115])]
  rw [if_neg h115] at hl ⊢
  intro wa ha
  exact Ctr.ret (none, 0) rfl trivial (Ctx.slNil (C.hid0 ha))
def msgB (x : Mv) : List UInt8 := [u8 x.kd] ++ fldB x
def byS (x : Mv) : List UInt8 × Int := if x.right = true then (msgB x, 0) else ([], 1)
end Go.Proofs
namespace Go.Proofs
open Go X RowKit
theorem ltB_103 (x : Mv) : ltB x (((103 : UInt8).toNat : Nat) : Int) = [u8 x.gr] := rfl
theorem ltB_105 (x : Mv) : ltB x (((105 : UInt8).toNat : Nat) : Int) = idB x.id := rfl
theorem ltB_102 (x : Mv) : ltB x (((102 : UInt8).toNat : Nat) : Int) = putU x.fl.toNat := rfl
theorem ltB_112 (x : Mv) : ltB x (((112 : UInt8).toNat : Nat) : Int) = listB ptB x.ps := rfl
theorem ltB_114 (x : Mv) : ltB x (((114 : UInt8).toNat : Nat) : Int) = resB x.rc x.rv := rfl
theorem ltB_118 (x : Mv) : ltB x (((118 : UInt8).toNat : Nat) : Int) = vwB x.vg x.vn x.vm := rfl
theorem ltB_99 (x : Mv) : ltB x (((99 : UInt8).toNat : Nat) : Int) = [u8 x.co] := rfl
theorem ltB_110 (x : Mv) : ltB x (((110 : UInt8).toNat : Nat) : Int) = putU x.nn.toNat := rfl
theorem ltB_97 (x : Mv) : ltB x (((97 : UInt8).toNat : Nat) : Int) = putU x.fr.toNat := rfl
theorem ltB_107 (x : Mv) : ltB x (((107 : UInt8).toNat : Nat) : Int) = putU x.cm.toNat := rfl
theorem ltB_101 (x : Mv) : ltB x (((101 : UInt8).toNat : Nat) : Int) = evsB x.es := rfl
theorem ltB_98 (x : Mv) : ltB x (((98 : UInt8).toNat : Nat) : Int) = putU x.ba.toNat := rfl
theorem ltB_104 (x : Mv) : ltB x (((104 : UInt8).toNat : Nat) : Int) = [flagB x.has] := rfl
theorem ltB_120 (x : Mv) : ltB x (((120 : UInt8).toNat : Nat) : Int) = putU x.ac.toNat := rfl
theorem ltB_109 (x : Mv) : ltB x (((109 : UInt8).toNat : Nat) : Int) = valB x.ms x.ts := rfl
theorem ltB_115 (x : Mv) : ltB x (((115 : UInt8).toNat : Nat) : Int) = putP x.pn x.pl := rfl
theorem fld_letters (x : Mv) : fldB x = (letL x.kd x.has).flatMap (fun c => ltB x ((c.toNat : Nat) : Int)) := by
  by_cases hk : 0 ≤ x.kd ∧ x.kd ≤ 13
  rotate_left
  · have e1 : fldB x = [] := by
      unfold fldB
      repeat rw [if_neg (by omega)]
    have e2 : letL x.kd x.has = [] := by
      rw [letL, if_neg (fun hx => by omega)]
      unfold fldS
      repeat rw [if_neg (by omega)]
    rw [e1, e2]; rfl
  have hor : x.kd = 0 ∨ x.kd = 1 ∨ x.kd = 2 ∨ x.kd = 3 ∨ x.kd = 4 ∨ x.kd = 5 ∨ x.kd = 6 ∨ x.kd = 7 ∨ x.kd = 8 ∨ x.kd = 9 ∨ x.kd = 10 ∨ x.kd = 11 ∨ x.kd = 12 ∨ x.kd = 13 := by omega
  rcases hor with h | h | h | h | h | h | h | h | h | h | h | h | h | h
  · have e : fldB x = [u8 x.gr] ++ idB x.id ++ putU x.fl.toNat ++ listB ptB x.ps := by unfold fldB; rw [h]; rfl
    rw [letL, if_neg (fun hx => by omega), fldS0 h, e]
    simp only [List.flatMap_cons, List.flatMap_nil, List.append_nil, rndB, valB, List.append_assoc, ltB_103, ltB_105, ltB_102, ltB_112, ltB_114, ltB_118, ltB_99, ltB_110, ltB_97, ltB_107, ltB_101, ltB_98, ltB_104, ltB_120, ltB_109, ltB_115]
  · have e : fldB x = idB x.id ++ resB x.rc x.rv ++ vwB x.vg x.vn x.vm := by unfold fldB; rw [h]; rfl
    rw [letL, if_neg (fun hx => by omega), fldS1 h, e]
    simp only [List.flatMap_cons, List.flatMap_nil, List.append_nil, rndB, valB, List.append_assoc, ltB_103, ltB_105, ltB_102, ltB_112, ltB_114, ltB_118, ltB_99, ltB_110, ltB_97, ltB_107, ltB_101, ltB_98, ltB_104, ltB_120, ltB_109, ltB_115]
  · have e : fldB x = idB x.id ++ [u8 x.co] := by unfold fldB; rw [h]; rfl
    rw [letL, if_neg (fun hx => by omega), fldS2 h, e]
    simp only [List.flatMap_cons, List.flatMap_nil, List.append_nil, rndB, valB, List.append_assoc, ltB_103, ltB_105, ltB_102, ltB_112, ltB_114, ltB_118, ltB_99, ltB_110, ltB_97, ltB_107, ltB_101, ltB_98, ltB_104, ltB_120, ltB_109, ltB_115]
  · have e : fldB x = [u8 x.gr] ++ putU x.nn.toNat ++ putU x.fr.toNat ++ putU x.cm.toNat ++ evsB x.es := by unfold fldB; rw [h]; rfl
    rw [letL, if_neg (fun hx => by omega), fldS3 h, e]
    simp only [List.flatMap_cons, List.flatMap_nil, List.append_nil, rndB, valB, List.append_assoc, ltB_103, ltB_105, ltB_102, ltB_112, ltB_114, ltB_118, ltB_99, ltB_110, ltB_97, ltB_107, ltB_101, ltB_98, ltB_104, ltB_120, ltB_109, ltB_115]
  · have e : fldB x = [u8 x.gr] ++ putU x.nn.toNat ++ putU x.fr.toNat := by unfold fldB; rw [h]; rfl
    rw [letL, if_neg (fun hx => by omega), fldS4 h, e]
    simp only [List.flatMap_cons, List.flatMap_nil, List.append_nil, rndB, valB, List.append_assoc, ltB_103, ltB_105, ltB_102, ltB_112, ltB_114, ltB_118, ltB_99, ltB_110, ltB_97, ltB_107, ltB_101, ltB_98, ltB_104, ltB_120, ltB_109, ltB_115]
  · have e : fldB x = rndB x.gr x.nn x.ba := by unfold fldB; rw [h]; rfl
    rw [letL, if_neg (fun hx => by omega), fldS5 h, e]
    simp only [List.flatMap_cons, List.flatMap_nil, List.append_nil, rndB, valB, List.append_assoc, ltB_103, ltB_105, ltB_102, ltB_112, ltB_114, ltB_118, ltB_99, ltB_110, ltB_97, ltB_107, ltB_101, ltB_98, ltB_104, ltB_120, ltB_109, ltB_115]
  · have e : fldB x = rndB x.gr x.nn x.ba := by unfold fldB; rw [h]; rfl
    rw [letL, if_neg (fun hx => by omega), fldS6 h, e]
    simp only [List.flatMap_cons, List.flatMap_nil, List.append_nil, rndB, valB, List.append_assoc, ltB_103, ltB_105, ltB_102, ltB_112, ltB_114, ltB_118, ltB_99, ltB_110, ltB_97, ltB_107, ltB_101, ltB_98, ltB_104, ltB_120, ltB_109, ltB_115]
  · have e : fldB x = rndB x.gr x.nn x.ba := by unfold fldB; rw [h]; rfl
    rw [letL, if_neg (fun hx => by omega), fldS7 h, e]
    simp only [List.flatMap_cons, List.flatMap_nil, List.append_nil, rndB, valB, List.append_assoc, ltB_103, ltB_105, ltB_102, ltB_112, ltB_114, ltB_118, ltB_99, ltB_110, ltB_97, ltB_107, ltB_101, ltB_98, ltB_104, ltB_120, ltB_109, ltB_115]
  · by_cases hh : x.has = true
    · rw [letL, if_pos ⟨h, hh⟩, fldS8 h]
      have e : fldB x = rndB x.gr x.nn x.ba ++ evsB x.es ++ [flagB x.has] ++ (if x.has = true then putU x.ac.toNat ++ valB x.ms x.ts else []) := by unfold fldB; rw [h]; rfl
      rw [e, if_pos hh]
      simp only [List.flatMap_append, List.flatMap_cons, List.flatMap_nil, List.append_nil, rndB, valB, List.append_assoc, ltB_103, ltB_105, ltB_102, ltB_112, ltB_114, ltB_118, ltB_99, ltB_110, ltB_97, ltB_107, ltB_101, ltB_98, ltB_104, ltB_120, ltB_109, ltB_115]
    · rw [letL, if_neg (fun hx => hh hx.2), fldS8 h]
      have e : fldB x = rndB x.gr x.nn x.ba ++ evsB x.es ++ [flagB x.has] ++ (if x.has = true then putU x.ac.toNat ++ valB x.ms x.ts else []) := by unfold fldB; rw [h]; rfl
      rw [e, if_neg hh]
      simp only [List.flatMap_cons, List.flatMap_nil, List.append_nil, rndB, valB, List.append_assoc, ltB_103, ltB_105, ltB_102, ltB_112, ltB_114, ltB_118, ltB_99, ltB_110, ltB_97, ltB_107, ltB_101, ltB_98, ltB_104, ltB_120, ltB_109, ltB_115]
  · have e : fldB x = rndB x.gr x.nn x.ba ++ valB x.ms x.ts := by unfold fldB; rw [h]; rfl
    rw [letL, if_neg (fun hx => by omega), fldS9 h, e]
    simp only [List.flatMap_cons, List.flatMap_nil, List.append_nil, rndB, valB, List.append_assoc, ltB_103, ltB_105, ltB_102, ltB_112, ltB_114, ltB_118, ltB_99, ltB_110, ltB_97, ltB_107, ltB_101, ltB_98, ltB_104, ltB_120, ltB_109, ltB_115]
  · have e : fldB x = vwB x.vg x.vn x.vm ++ evsB x.es := by unfold fldB; rw [h]; rfl
    rw [letL, if_neg (fun hx => by omega), fldS10 h, e]
    simp only [List.flatMap_cons, List.flatMap_nil, List.append_nil, rndB, valB, List.append_assoc, ltB_103, ltB_105, ltB_102, ltB_112, ltB_114, ltB_118, ltB_99, ltB_110, ltB_97, ltB_107, ltB_101, ltB_98, ltB_104, ltB_120, ltB_109, ltB_115]
  · have e : fldB x = [u8 x.gr] ++ putP x.pn x.pl := by unfold fldB; rw [h]; rfl
    rw [letL, if_neg (fun hx => by omega), fldS11 h, e]
    simp only [List.flatMap_cons, List.flatMap_nil, List.append_nil, rndB, valB, List.append_assoc, ltB_103, ltB_105, ltB_102, ltB_112, ltB_114, ltB_118, ltB_99, ltB_110, ltB_97, ltB_107, ltB_101, ltB_98, ltB_104, ltB_120, ltB_109, ltB_115]
  · have e : fldB x = [u8 x.gr] ++ putP x.pn x.pl := by unfold fldB; rw [h]; rfl
    rw [letL, if_neg (fun hx => by omega), fldS12 h, e]
    simp only [List.flatMap_cons, List.flatMap_nil, List.append_nil, rndB, valB, List.append_assoc, ltB_103, ltB_105, ltB_102, ltB_112, ltB_114, ltB_118, ltB_99, ltB_110, ltB_97, ltB_107, ltB_101, ltB_98, ltB_104, ltB_120, ltB_109, ltB_115]
  · have e : fldB x = [u8 x.gr] ++ putP x.pn x.pl := by unfold fldB; rw [h]; rfl
    rw [letL, if_neg (fun hx => by omega), fldS13 h, e]
    simp only [List.flatMap_cons, List.flatMap_nil, List.append_nil, rndB, valB, List.append_assoc, ltB_103, ltB_105, ltB_102, ltB_112, ltB_114, ltB_118, ltB_99, ltB_110, ltB_97, ltB_107, ltB_101, ltB_98, ltB_104, ltB_120, ltB_109, ltB_115]
theorem c_Wmsg_x (b : Nat) (v : Sl) (bs : List UInt8) (x : Mg) (hk : ¬ (0 ≤ x.kd ∧ x.kd ≤ 13)) : Ctr Tryz.prog 21 #[.pointer (some ⟨b, 0, none⟩), .agg x.row.toArray] (fun m => MgM m x) (wA b v bs) (fun _ : Sl => .tuple #[]) (fun _ _ => True) (fun v' => wA b v' (bs ++ fldB x.er)) := by
  refine Ctr.mk fun w F m C hs => x_Wmsg _ _ _ _ _ _ _ _ _ _ _ _ _ _ _ _ _ _ _ _ _ _ _ _ _ _ _ _ _ _ _ _ _ _ _ _ _ _ _ _ _ _ w _ ?_
  have hf : fldB x.er = [] := by
    have hk' : ¬ (0 ≤ x.er.kd ∧ x.er.kd ≤ 13) := hk
    unfold fldB
    repeat rw [if_neg (by omega)]
  rw [hf, List.append_nil]
  repeat rw [if_neg (by rw [beq_iff_eq]; omega)]
  intro wa ha
  exact ⟨v, _, _, rfl, trivial, C.hid0 ha⟩
theorem c_Wmsg (b : Nat) (v : Sl) (bs : List UInt8) (x : Mg) (hi : MvF x.er) (hc : MgC x) (h9 : bs.length ≤ 1000) (hl : bs.length + (fldB x.er).length ≤ 1000000000) : Ctr Tryz.prog 21 #[.pointer (some ⟨b, 0, none⟩), .agg x.row.toArray] (fun m => MgM m x) (wA b v bs) (fun _ : Sl => .tuple #[]) (fun _ _ => True) (fun v' => wA b v' (bs ++ fldB x.er)) := by
  by_cases hk : 0 ≤ x.kd ∧ x.kd ≤ 13
  rotate_left
  · exact c_Wmsg_x b v bs x hk
  have hor : x.er.kd = 0 ∨ x.er.kd = 1 ∨ x.er.kd = 2 ∨ x.er.kd = 3 ∨ x.er.kd = 4 ∨ x.er.kd = 5 ∨ x.er.kd = 6 ∨ x.er.kd = 7 ∨ x.er.kd = 8 ∨ x.er.kd = 9 ∨ x.er.kd = 10 ∨ x.er.kd = 11 ∨ x.er.kd = 12 ∨ x.er.kd = 13 := by show x.kd = 0 ∨ x.kd = 1 ∨ x.kd = 2 ∨ x.kd = 3 ∨ x.kd = 4 ∨ x.kd = 5 ∨ x.kd = 6 ∨ x.kd = 7 ∨ x.kd = 8 ∨ x.kd = 9 ∨ x.kd = 10 ∨ x.kd = 11 ∨ x.kd = 12 ∨ x.kd = 13; omega
  rcases hor with h | h | h | h | h | h | h | h | h | h | h | h | h | h
  · exact c_Wmsg_0 b v bs x h hi hc h9 hl
  · exact c_Wmsg_1 b v bs x h hi hc h9 hl
  · exact c_Wmsg_2 b v bs x h hi hc h9 hl
  · exact c_Wmsg_3 b v bs x h hi hc h9 hl
  · exact c_Wmsg_4 b v bs x h hi hc h9 hl
  · exact c_Wmsg_5 b v bs x h hi hc h9 hl
  · exact c_Wmsg_6 b v bs x h hi hc h9 hl
  · exact c_Wmsg_7 b v bs x h hi hc h9 hl
  · exact c_Wmsg_8 b v bs x h hi hc h9 hl
  · exact c_Wmsg_9 b v bs x h hi hc h9 hl
  · exact c_Wmsg_10 b v bs x h hi hc h9 hl
  · exact c_Wmsg_11 b v bs x h hi hc h9 hl
  · exact c_Wmsg_12 b v bs x h hi hc h9 hl
  · exact c_Wmsg_13 b v bs x h hi hc h9 hl
end Go.Proofs
namespace Go.Proofs
open Go X RowKit
abbrev M64n : Nat := 18446744073709551615
def zagN (v : Nat) : Int := if v % 2 = 1 then -((v / 2 : Nat) : Int) - 1 else ((v / 2 : Nat) : Int)
def iS (s : St) : Int × St := (zagN (uS M64n s).1, (uS M64n s).2)
def prOf (p : UInt8 × Nat) : Pr := ⟨(p.1.toNat : Nat), (p.2 : Nat)⟩
def prS (s : St) : Pr × St := (prOf (procS s).1, (procS s).2)
def I.put (x : I) (i : Nat) (g j : Int) : I := if i = 0 then { x with g0 := g, i0 := j } else if i = 1 then { x with g1 := g, i1 := j } else { x with g2 := g, i2 := j }
def stS : Nat → Nat → I → St → I × St
  | 0, _, x, s => (x, s)
  | k + 1, i, x, s => stS k (i + 1) (x.put i ((bS s).1.toNat : Nat) ((bS (bS s).2).1.toNat : Nat)) (bS (bS s).2).2
def idH (s : St) : I × St :=
  let p := procS s; let q := uS 4294967295 p.2; let d := bS q.2
  (⟨(p.1.1.toNat : Nat), (p.1.2 : Nat), (q.1 : Nat), (d.1.toNat : Nat), 0, 0, 0, 0, 0, 0⟩, d.2)
def idS (s : St) : I × St := if (idH s).1.d > 3 then idH s else stS (idH s).1.d.toNat 0 (idH s).1 (idH s).2
def ptS (s : St) : Pt × St :=
  let a := bS s; let b := bS a.2; let c := textS 255 b.2; let d := textS 255 c.2; let e := iS d.2
  (⟨(a.1.toNat : Nat), (b.1.toNat : Nat), toBA c.1, toBA d.1, e.1⟩, e.2)
def someS {α : Type} (g : St → α × St) : Nat → St → List α × St
  | 0, s => ([], s)
  | n + 1, s => if (g s).2.2 ≠ 0 then ([], (g s).2) else ((g s).1 :: (someS g n (g s).2).1, (someS g n (g s).2).2)
def ptsS (s : St) : List Pt × St := someS ptS (bS s).1.toNat (bS s).2
def resS (s : St) : Rs × St := let a := bS s; let t := textS 1000 a.2; (⟨(a.1.toNat : Nat), toBA t.1⟩, t.2)
def wrS (s : St) : Wr × St := let a := textS 255 s; let b := textS 255 a.2; let f := flagS b.2; (⟨toBA a.1, toBA b.1, f.1⟩, f.2)
def wrsS (s : St) : List Wr × St := someS wrS (bS s).1.toNat (bS s).2
def Ev.zero (k : Int) : Ev := ⟨k, I.zero, 0, [], 0, ByteArray.mk #[], [], 0, 0⟩
def evC (k : Int) (s : St) : Ev × St :=
  let i := idS s; let f := uS 4294967295 i.2; let p := ptsS f.2
  ({ Ev.zero k with id := i.1, fl := (f.1 : Nat), ps := p.1 }, p.2)
def evK (k : Int) (s : St) : Ev × St :=
  let c := evC k s; let r := resS c.2; let w := wrsS r.2
  ({ c.1 with rc := r.1.c, rv := r.1.v, ws := w.1 }, w.2)
def evBk (k : Int) (s : St) : Ev × St :=
  let i := idS s; let r := resS i.2
  ({ Ev.zero k with id := i.1, rc := r.1.c, rv := r.1.v }, r.2)
def evKl (k : Int) (s : St) : Ev × St :=
  let p := procS s
  ({ Ev.zero k with vn := (p.1.1.toNat : Nat), vl := (p.1.2 : Nat) }, p.2)
def evS (s : St) : Ev × St :=
  let k := bS s
  if k.2.2 ≠ 0 then (Ev.zero 0, k.2)
  else if k.1.toNat = 3 then evK 3 k.2
  else if k.1.toNat = 0 then evC 0 k.2
  else if k.1.toNat = 1 then evBk 1 k.2
  else if k.1.toNat = 2 then evKl 2 k.2
  else (Ev.zero (k.1.toNat : Nat), failS k.2 6)
def okE {α : Type} (r : List α × St) : List α × St := if r.2.2 ≠ 0 then ([], r.2) else r
def evsS (s : St) : List Ev × St := okE (someS evS (uS 400 s).1 (uS 400 s).2)
def prsS (s : St) : List Pr × St := okE (someS prS (bS s).1.toNat (bS s).2)
def vwS (s : St) : (Int × Int × List Pr) × St :=
  let g := bS s; let n := uS 4294967295 g.2; let l := prsS n.2
  if l.2.2 ≠ 0 then ((0, 0, []), l.2) else (((g.1.toNat : Nat), (n.1 : Nat), l.1), l.2)
def Dead {α : Type} (g : St → α × St) : Prop := ∀ s : St, s.2 ≠ 0 → (g s).2 = ([], s.2)
theorem dead_b : Dead bS := fun s h => by rw [bS, if_pos h]
theorem dead_u (most : Nat) : Dead (uS most) := fun s h => by rw [uS, if_pos h]
theorem dead_text (most : Nat) : Dead (textS most) := fun s h => by
  have := dead_u most s h
  rw [textS]; simp only [this]; rw [if_pos h]
theorem fail_dead {s : St} {e : Int} (h : s.2 ≠ 0) : failS s e = ([], s.2) := by rw [failS, if_neg h]
theorem dead_flag : Dead flagS := fun s h => by
  have h1 := dead_b s h
  rw [flagS]; simp only [h1]
  split
  · exact fail_dead (s := ([], s.2)) h
  · rfl
theorem dead_proc : Dead procS := fun s h => by
  have h1 := dead_b s h
  rw [procS]; simp only [h1]; exact dead_u 65535 _ h
theorem dead_pr : Dead prS := fun s h => dead_proc s h
theorem dead_i : Dead iS := fun s h => dead_u _ s h
theorem dead_pt : Dead ptS := fun s h => by
  rw [ptS]; simp only [dead_b s h]
  rw [dead_b ([], s.2) h, dead_text 255 ([], s.2) h, dead_text 255 ([], s.2) h, dead_i ([], s.2) h]
theorem dead_wr : Dead wrS := fun s h => by
  rw [wrS]; simp only [dead_text 255 s h]
  rw [dead_text 255 ([], s.2) h, dead_flag ([], s.2) h]
theorem dead_ev : Dead evS := fun s h => by
  rw [evS]; simp only [dead_b s h]; rw [if_pos h]
theorem some_dead {α : Type} {g : St → α × St} (hg : Dead g) (n : Nat) {s : St} (h : s.2 ≠ 0) (hs : s.1 = []) : someS g n s = ([], s) := by
  cases n with
  | zero => rfl
  | succ n =>
    have hd := hg s h
    have e : s = ([], s.2) := by rw [← hs]
    rw [someS, if_pos (by rw [hd]; exact h), hd, ← e]
theorem bS_lt (s : St) : (bS s).1.toNat < 256 := (bS s).1.toNat_lt
end Go.Proofs
namespace Go.Proofs
open Go X RowKit
theorem and1 (v : Nat) (h : v < 18446744073709551616) : (BitVec.ofInt 64 (v : Int) &&& BitVec.ofInt 64 1).toNat = v % 2 := by
  rw [BitVec.ofInt_natCast, BitVec.toNat_and, BitVec.toNat_ofNat, Nat.mod_eq_of_lt h]
  have : (BitVec.ofInt 64 1).toNat = 1 := rfl
  rw [this, Nat.and_one_is_mod]
theorem w_i64_hi {n : Int} (h1 : 9223372036854775808 ≤ n) (h2 : n < 18446744073709551616) : IntKind.wrap .i64 n = n - 18446744073709551616 := by
  simp [IntKind.wrap, IntKind.bits, IntKind.signed]
  split <;> omega
theorem zag_eq (v : Nat) (h : v < 18446744073709551616) : IntKind.wrap .i64 ((((BitVec.ofInt 64 (IntKind.i64.wrap ((v : Int).fdiv 2)) ^^^ BitVec.ofInt 64 (IntKind.i64.wrap (0 - IntKind.i64.wrap (IntKind.u64.wrap ((BitVec.ofInt 64 (v : Int) &&& BitVec.ofInt 64 1).toNat : Int))))).toNat) : Nat) : Int) = zagN v := by
  have e0 : (v : Int).fdiv 2 = ((v / 2 : Nat) : Int) := by rw [Int.fdiv_eq_ediv_of_nonneg _ (by decide)]; omega
  rw [and1 v h, e0, w_i64 (n := ((v / 2 : Nat) : Int)) (by omega) (by omega), w_u64 (by omega) (by omega), w_i64 (n := ((v % 2 : Nat) : Int)) (by omega) (by omega), w_i64 (n := 0 - ((v % 2 : Nat) : Int)) (by omega) (by omega)]
  have e : ((2 ^ 64 : Nat) : Int) = 18446744073709551616 := rfl
  unfold zagN
  by_cases h2 : v % 2 = 1
  · rw [if_pos h2, h2]
    have e2 : BitVec.ofInt 64 ((v / 2 : Nat) : Int) ^^^ BitVec.ofInt 64 (0 - ((1 : Nat) : Int)) = ~~~ (BitVec.ofInt 64 ((v / 2 : Nat) : Int)) := by rw [BitVec.not_def, BitVec.xor_comm]; rfl
    rw [e2, BitVec.toNat_not, BitVec.toNat_ofInt, e]
    have e3 : (((v / 2 : Nat) : Int) % 18446744073709551616).toNat = v / 2 := by omega
    rw [e3, w_i64_hi (by omega) (by omega)]
    omega
  · rw [if_neg h2]
    have h0 : v % 2 = 0 := by omega
    rw [h0]
    have e2 : BitVec.ofInt 64 ((v / 2 : Nat) : Int) ^^^ BitVec.ofInt 64 (0 - ((0 : Nat) : Int)) = BitVec.ofInt 64 ((v / 2 : Nat) : Int) := by
      have : BitVec.ofInt 64 (0 - ((0 : Nat) : Int)) = 0#64 := rfl
      rw [this, BitVec.xor_zero]
    rw [e2, BitVec.toNat_ofInt, e, w_i64 (by omega) (by omega)]
    omega
theorem c_Zag (v : Nat) (h : v < 18446744073709551616) : Gives Tryz.prog 172 #[.int .u64 (v : Int)] (.int .i64 (zagN v)) := fun w => x_Zag _ w _ ⟨by rw [zag_eq v h], below_refl _ _⟩
abbrev RdC (f : FuncId) {α : Type} (V : α → Value) (g : St → α × St) : Prop := ∀ (b : Nat) (r : Rd), Ctr Tryz.prog f #[.pointer (some ⟨b, 0, none⟩)] (fun m => r.ok m) [rA b r] (fun _ : Rd => V (g r.st).1) (fun r' m => r'.ok m ∧ r'.st = (g r.st).2) (fun r' => [rA b r'])
theorem c_RI : RdC 158 (fun n : Int => .int .i64 n) iS := by
  refine fun b r => Ctr.mk fun w F m C hr => x_RI _ w _ ?_
  refine (c_RU b r 18446744073709551615 (by decide)).call (As := []) C hr fun r1 m1 w2 hk hm1 p1 C => ⟨_, rfl, hk.size, ?_⟩
  have hlt := uS_lt 18446744073709551615 r.st (by decide)
  refine C.gives (c_Zag (uS 18446744073709551615 r.st).1 (by omega)) fun w5 k5 C => ⟨_, rfl, k5.size, ?_⟩
  exact Ctr.ret (m' := m1) (L := []) r1 rfl p1 C
theorem c_GetPr : RdC 95 (fun p : Pr => .agg p.row.toArray) prS := fun b r => c_GetProc b r
theorem c_pGet : RdC 136 (fun p : Pt => .agg p.row.toArray) ptS := by
  refine fun b r => Ctr.mk fun w F m C hr => x_pGet _ w _ fun w1 L2 h1 g1 => ?_
  refine (c_RB b r).call (As := []) (C.hidL h1 g1) hr fun r1 m1 w4 hk hm1 p1 C => ⟨_, rfl, hk, fun w6 L7 h6 g6 => ?_⟩
  refine (c_RB b r1).call (As := []) (C.hidL h6 g6) p1.1 fun r2 m2 w9 hk hm2 p2 C => ⟨_, rfl, hk, fun w11 L12 h11 g11 => ?_⟩
  refine (c_RText b r2 255 (by decide)).call (As := []) (C.hidL h11 g11) p2.1 fun r3 m3 w14 hk hm3 p3 C => ⟨_, rfl, hk, fun w16 L17 h16 g16 => ?_⟩
  refine (c_RText b r3 255 (by decide)).call (As := []) (C.hidL h16 g16) p3.1 fun r4 m4 w19 hk hm4 p4 C => ⟨_, rfl, hk, fun w21 L22 h21 g21 => ?_⟩
  refine (c_RI b r4).call (As := []) (C.hidL h21 g21) p4.1 fun r5 m5 w24 hk hm5 p5 C => ⟨_, rfl, hk, fun w26 h26 => ?_⟩
  exact Ctr.ret (m' := m5) (L := []) r5 (by simp only [ptS]; rw [← p1.2, ← p2.2, ← p3.2, ← p4.2]) ⟨p5.1, by simp only [ptS]; rw [← p1.2, ← p2.2, ← p3.2, ← p4.2, p5.2]⟩ (C.hid0 h26)
theorem c_GetRes : RdC 88 (fun x : Rs => .agg x.row.toArray) resS := by
  refine fun b r => Ctr.mk fun w F m C hr => x_GetRes _ w _ fun w1 L2 h1 g1 => ?_
  refine (c_RB b r).call (As := []) (C.hidL h1 g1) hr fun r1 m1 w4 hk hm1 p1 C => ⟨_, rfl, hk, ?_⟩
  refine (c_RText b r1 1000 (by decide)).call (As := []) C p1.1 fun r2 m2 w7 hk hm2 p2 C => ⟨_, rfl, hk, fun w9 h9 => ?_⟩
  exact Ctr.ret (m' := m2) (L := []) r2 (by simp only [resS]; rw [← p1.2]) ⟨p2.1, by simp only [resS]; rw [← p1.2, p2.2]⟩ (C.hid0 h9)
theorem b_one (c : UInt8) : (((c.toNat : Nat) : Int) == 1) = (c == 1) := by
  rw [Bool.eq_iff_iff]; simp only [beq_iff_eq]
  constructor
  · intro h; apply UInt8.toNat_inj.1; show c.toNat = 1; omega
  · intro h; rw [h]; rfl
theorem c_getWrite : RdC 160 (fun x : Wr => .agg x.row.toArray) wrS := by
  refine fun b r => Ctr.mk fun w F m C hr => x_getWrite _ w _ fun w1 L2 h1 g1 => ?_
  refine (c_RText b r 255 (by decide)).call (As := []) (C.hidL h1 g1) hr fun r1 m1 w4 hk hm1 p1 C => ⟨_, rfl, hk, fun w6 L7 h6 g6 => ?_⟩
  refine (c_RText b r1 255 (by decide)).call (As := []) (C.hidL h6 g6) p1.1 fun r2 m2 w9 hk hm2 p2 C => ⟨_, rfl, hk, fun w11 L12 h11 g11 => ?_⟩
  refine (c_RB b r2).call (As := []) (C.hidL h11 g11) p2.1 fun r3 m3 w14 hk hm3 p3 C => ⟨_, rfl, hk, ?_⟩
  rw [b_one]
  by_cases h : (bS r2.st).1.toNat > 1
  · rw [if_pos (by simp only [decide_eq_true_eq]; omega)]
    refine (c_RFail6 b r3).call (As := []) C trivial fun _ m4 w18 hk hm4 _ C => ⟨rfl, hk, fun w19 h19 => ?_⟩
    refine Ctr.ret (m' := m4) (L := []) ⟨(none, 0), [], (failS r3.st 6).2⟩ (by simp only [wrS]; rw [← p1.2, ← p2.2]; rfl) ⟨okNil _ _ _, ?_⟩ (C.hid0 h19)
    simp only [wrS]; rw [← p1.2, ← p2.2, flagS]; simp only [if_pos h]; rw [← p3.2]; rfl
  · rw [if_neg (by simp only [decide_eq_true_eq]; omega)]
    refine fun w16 h16 => Ctr.ret (m' := m3) (L := []) r3 (by simp only [wrS]; rw [← p1.2, ← p2.2]; rfl) ⟨p3.1, ?_⟩ (C.hid0 h16)
    simp only [wrS]; rw [← p1.2, ← p2.2, flagS]; simp only [if_neg h]; exact p3.2
theorem c_someP (b : Nat) (r : Rd) (n : Nat) (hn : n ≤ 1000) : Ctr Tryz.prog 135 #[.pointer (some ⟨b, 0, none⟩), .int .i64 (n : Int), .func (.func 136) #[] #[]] (fun m => r.ok m) [rA b r] (fun p : Sl × Rd => slV p.1 (someS ptS n r.st).1.length) (fun p m => MSrc m 5 (slV p.1 (someS ptS n r.st).1.length) (someS ptS n r.st).1.length ((someS ptS n r.st).1.flatMap Pt.row) ∧ (someS ptS n r.st).1.length ≤ p.1.2 ∧ p.2.ok m ∧ p.2.st = (someS ptS n r.st).2) (fun p => [rA b p.2]) := by
  refine Ctr.mk fun w F m C hr => x_someP _ _ w _ ?_
  generalize hT : someS ptS n r.st = T
  refine ⟨fun q k c i w' L' => ∃ (j : Nat) (r' : Rd) (m' : Mem) (pre : List Pt), i = j ∧ j ≤ n ∧ k = pre.length ∧ pre.length = j ∧ r'.ok m' ∧ (pre ++ (someS ptS (n - j) r'.st).1, (someS ptS (n - j) r'.st).2) = T ∧ Ctx F m w w' L' m' [slA (.slice q pre.length c) pre.length (pre.flatMap Pt.row) 138 5, rA b r'], fun _ _ _ i _ => ((n : Int) - i).toNat, ⟨0, r, m, [], rfl, by omega, rfl, rfl, hr, hT, C.slNil⟩, ?_⟩
  clear C
  rintro q k c i w7 L8 _ ⟨j, r', m', pre, rfl, hj, rfl, hpl, hr', he, C⟩
  have fin : ∀ (r2 : Rd) (m2 : Mem) (w2 : World) (L2 : List Nat), r2.ok m2 → (pre, r2.st) = T → Ctx F m w w2 L2 m2 [slA (.slice q pre.length c) pre.length (pre.flatMap Pt.row) 138 5, rA b r2] → ∃ (p : Sl × Rd) (m' : Mem) (L : List Nat), Ending.returned (Value.slice q pre.length c) = .returned (slV p.1 T.1.length) ∧ (MSrc m' 5 (slV p.1 T.1.length) T.1.length (T.1.flatMap Pt.row) ∧ T.1.length ≤ p.1.2 ∧ p.2.ok m' ∧ p.2.st = T.2) ∧ Ctx F m w w2 L m' [rA b p.2] := fun r2 m2 w2 L2 h1 h2 C => by
    subst h2
    have hc := C.slCap.1
    obtain ⟨m3, hm3, hs, D⟩ := C.slShare
    exact ⟨((q, c), r2), m3, L2, rfl, ⟨hs, hc, h1.mono hm3, rfl⟩, D⟩
  by_cases hjn : j < n
  rotate_left
  · rw [if_neg (by simp only [decide_eq_true_eq]; omega)]
    have h0 : n - j = 0 := by omega
    simp only [h0, someS, List.append_nil] at he
    exact fin r' m' w7 L8 hr' he C
  rw [if_pos (by simp only [decide_eq_true_eq]; omega)]
  have h1 : n - j = (n - (j + 1)) + 1 := by omega
  refine (c_pGet b r').call (As := [_]) C.swap hr' fun r2 m2 w10 hk hm2 p2 C => ⟨_, _, _, _, _, rfl, hk.size, fun w16 L17 h16 g16 => ?_⟩
  refine (c_RErr b r2).call (As := [_]) (C.noL.hidL h16 g16) trivial fun _ m3 w19 hk hm3 _ C => ⟨_, rfl, hk, ?_⟩
  rw [h1] at he
  simp only [someS] at he
  have e2 : r2.e = (ptS r'.st).2.2 := by rw [← p2.2]; rfl
  by_cases hz : r2.e = 0
  rotate_left
  · rw [if_pos (by simp [hz])]
    rw [if_pos (by rw [← e2]; exact hz), List.append_nil, ← p2.2] at he
    exact fin r2 m3 w19 L17 (p2.1.mono hm3) he C.swap
  rw [if_neg (by simp [hz])]
  rw [if_neg (by rw [← e2]; simpa using hz), ← p2.2] at he
  generalize (ptS r'.st).1 = x at he ⊢
  have D0 := (C.swap.alloc x.row 138).swap
  have hcl : Cells _ ⟨w19.heap.size, 0, none⟩ x.row := (C.swap.alloc x.row 138).blkCells (o := 0) fun k v e => by simpa using e
  obtain ⟨q2, c2, w25, ha, hkk, D2⟩ := Ctx.app2 (P := Tryz.prog) (bytes := 48) (t := 52) (t2 := 52) D0 52 (by kernel_rfl) (.some ⟨w19.heap.size, 0, none⟩ 1 1 x.row rfl hcl) (by unfold maxLen; omega) (by omega) (pt_one _)
  have e1 : (pre ++ [x]).length = pre.length + 1 := by simp
  have e3 : (pre ++ [x]).flatMap Pt.row = pre.flatMap Pt.row ++ x.row := by simp
  have e : IntKind.wrap .i64 ((j : Int) + 1) = ((j + 1 : Nat) : Int) := by rw [w_i64 (by omega) (by omega)]; omega
  refine ⟨q2, _, c2, w25, ha, hkk, ⟨j + 1, r2, m3, pre ++ [x], e, hjn, e1.symm, by rw [e1, hpl], p2.1.mono hm3, ?_, ?_⟩, ?_⟩
  · rw [← he, List.append_assoc]; rfl
  · rw [← e3, ← e1] at D2
    exact D2.pk [0, 2] [1] rfl
  · rw [e]; exact Nat.le_of_eq (by show ((n : Int) - ((j + 1 : Nat) : Int)).toNat + 1 = ((n : Int) - (j : Int)).toNat; omega)
theorem c_pGetAll (b : Nat) (r : Rd) : Ctr Tryz.prog 87 #[.pointer (some ⟨b, 0, none⟩)] (fun m => r.ok m) [rA b r] (fun p : Sl × Rd => slV p.1 (ptsS r.st).1.length) (fun p m => MSrc m 5 (slV p.1 (ptsS r.st).1.length) (ptsS r.st).1.length ((ptsS r.st).1.flatMap Pt.row) ∧ (ptsS r.st).1.length ≤ p.1.2 ∧ p.2.ok m ∧ p.2.st = (ptsS r.st).2) (fun p => [rA b p.2]) := by
  refine Ctr.mk fun w F m C hr => x_pGetAll _ w _ ?_
  refine (c_RB b r).call (As := []) C hr fun r1 m1 w2 hk hm1 p1 C => ⟨_, rfl, hk.size, ?_⟩
  have hlt := bS_lt r.st
  rw [w_i64 (by omega) (by omega)]
  refine (c_someP b r1 (bS r.st).1.toNat (by omega)).call (As := []) C p1.1 fun p m2 w5 hk hm2 p2 C => ⟨_, _, _, rfl, hk.size, ?_⟩
  rw [p1.2] at p2 ⊢
  exact Ctr.ret (m' := m2) (L := []) p rfl p2 C
theorem c_someW (b : Nat) (r : Rd) (n : Nat) (hn : n ≤ 1000) : Ctr Tryz.prog 159 #[.pointer (some ⟨b, 0, none⟩), .int .i64 (n : Int), .func (.func 160) #[] #[]] (fun m => r.ok m) [rA b r] (fun p : Sl × Rd => slV p.1 (someS wrS n r.st).1.length) (fun p m => MSrc m 3 (slV p.1 (someS wrS n r.st).1.length) (someS wrS n r.st).1.length ((someS wrS n r.st).1.flatMap Wr.row) ∧ (someS wrS n r.st).1.length ≤ p.1.2 ∧ p.2.ok m ∧ p.2.st = (someS wrS n r.st).2) (fun p => [rA b p.2]) := by
  refine Ctr.mk fun w F m C hr => x_someW _ _ w _ ?_
  generalize hT : someS wrS n r.st = T
  refine ⟨fun q k c i w' L' => ∃ (j : Nat) (r' : Rd) (m' : Mem) (pre : List Wr), i = j ∧ j ≤ n ∧ k = pre.length ∧ pre.length = j ∧ r'.ok m' ∧ (pre ++ (someS wrS (n - j) r'.st).1, (someS wrS (n - j) r'.st).2) = T ∧ Ctx F m w w' L' m' [slA (.slice q pre.length c) pre.length (pre.flatMap Wr.row) 214 3, rA b r'], fun _ _ _ i _ => ((n : Int) - i).toNat, ⟨0, r, m, [], rfl, by omega, rfl, rfl, hr, hT, C.slNil⟩, ?_⟩
  clear C
  rintro q k c i w7 L8 _ ⟨j, r', m', pre, rfl, hj, rfl, hpl, hr', he, C⟩
  have fin : ∀ (r2 : Rd) (m2 : Mem) (w2 : World) (L2 : List Nat), r2.ok m2 → (pre, r2.st) = T → Ctx F m w w2 L2 m2 [slA (.slice q pre.length c) pre.length (pre.flatMap Wr.row) 214 3, rA b r2] → ∃ (p : Sl × Rd) (m' : Mem) (L : List Nat), Ending.returned (Value.slice q pre.length c) = .returned (slV p.1 T.1.length) ∧ (MSrc m' 3 (slV p.1 T.1.length) T.1.length (T.1.flatMap Wr.row) ∧ T.1.length ≤ p.1.2 ∧ p.2.ok m' ∧ p.2.st = T.2) ∧ Ctx F m w w2 L m' [rA b p.2] := fun r2 m2 w2 L2 h1 h2 C => by
    subst h2
    have hc := C.slCap.1
    obtain ⟨m3, hm3, hs, D⟩ := C.slShare
    exact ⟨((q, c), r2), m3, L2, rfl, ⟨hs, hc, h1.mono hm3, rfl⟩, D⟩
  by_cases hjn : j < n
  rotate_left
  · rw [if_neg (by simp only [decide_eq_true_eq]; omega)]
    have h0 : n - j = 0 := by omega
    simp only [h0, someS, List.append_nil] at he
    exact fin r' m' w7 L8 hr' he C
  rw [if_pos (by simp only [decide_eq_true_eq]; omega)]
  have h1 : n - j = (n - (j + 1)) + 1 := by omega
  refine (c_getWrite b r').call (As := [_]) C.swap hr' fun r2 m2 w10 hk hm2 p2 C => ⟨_, _, _, rfl, hk.size, fun w16 L17 h16 g16 => ?_⟩
  refine (c_RErr b r2).call (As := [_]) (C.noL.hidL h16 g16) trivial fun _ m3 w19 hk hm3 _ C => ⟨_, rfl, hk, ?_⟩
  rw [h1] at he
  simp only [someS] at he
  have e2 : r2.e = (wrS r'.st).2.2 := by rw [← p2.2]; rfl
  by_cases hz : r2.e = 0
  rotate_left
  · rw [if_pos (by simp [hz])]
    rw [if_pos (by rw [← e2]; exact hz), List.append_nil, ← p2.2] at he
    exact fin r2 m3 w19 L17 (p2.1.mono hm3) he C.swap
  rw [if_neg (by simp [hz])]
  rw [if_neg (by rw [← e2]; simpa using hz), ← p2.2] at he
  generalize (wrS r'.st).1 = x at he ⊢
  have D0 := (C.swap.alloc x.row 214).swap
  have hcl : Cells _ ⟨w19.heap.size, 0, none⟩ x.row := (C.swap.alloc x.row 214).blkCells (o := 0) fun k v e => by simpa using e
  obtain ⟨q2, c2, w25, ha, hkk, D2⟩ := Ctx.app2 (P := Tryz.prog) (bytes := 40) (t := 140) (t2 := 140) D0 140 (by kernel_rfl) (.some ⟨w19.heap.size, 0, none⟩ 1 1 x.row rfl hcl) (by unfold maxLen; omega) (by omega) (wr_one _)
  have e1 : (pre ++ [x]).length = pre.length + 1 := by simp
  have e3 : (pre ++ [x]).flatMap Wr.row = pre.flatMap Wr.row ++ x.row := by simp
  have e : IntKind.wrap .i64 ((j : Int) + 1) = ((j + 1 : Nat) : Int) := by rw [w_i64 (by omega) (by omega)]; omega
  refine ⟨q2, _, c2, w25, ha, hkk, ⟨j + 1, r2, m3, pre ++ [x], e, hjn, e1.symm, by rw [e1, hpl], p2.1.mono hm3, ?_, ?_⟩, ?_⟩
  · rw [← he, List.append_assoc]; rfl
  · rw [← e3, ← e1] at D2
    exact D2.pk [0, 2] [1] rfl
  · rw [e]; exact Nat.le_of_eq (by show ((n : Int) - ((j + 1 : Nat) : Int)).toNat + 1 = ((n : Int) - (j : Int)).toNat; omega)
theorem c_GetID : RdC 85 (fun x : I => x.V) idS := by
  refine fun b r => Ctr.mk fun w F m C hr => x_GetID _ w _ fun w1 L2 h1 g1 => ?_
  refine (c_GetProc b r).call (As := []) (C.hidL h1 g1) hr fun r1 m1 w4 hk hm1 p1 C => ⟨_, _, rfl, hk, fun w7 L8 h7 g7 => ?_⟩
  refine (c_RU b r1 4294967295 (by decide)).call (As := []) (C.hidL h7 g7) p1.1 fun r2 m2 w10 hk hm2 p2 C => ⟨_, rfl, hk, fun w12 L13 h12 g12 => ?_⟩
  refine (c_RB b r2).call (As := []) (C.hidL h12 g12) p2.1 fun r3 m3 w15 hk hm3 p3 C => ⟨_, rfl, hk, ?_⟩
  have hlt := uS_lt 4294967295 r1.st (by decide)
  have hd := bS_lt r2.st
  rw [w_u32 (by omega) (by omega)]
  have hH : idH r.st = (⟨((procS r.st).1.1.toNat : Nat), ((procS r.st).1.2 : Nat), ((uS 4294967295 r1.st).1 : Nat), ((bS r2.st).1.toNat : Nat), 0, 0, 0, 0, 0, 0⟩, r3.st) := by
    simp only [idH]; rw [← p1.2, ← p2.2, ← p3.2]
  generalize ((procS r.st).1.1.toNat : Int) = xn at hH ⊢
  generalize ((procS r.st).1.2 : Int) = xl at hH ⊢
  generalize ((uS 4294967295 r1.st).1 : Int) = xs at hH ⊢
  generalize (bS r2.st).1.toNat = D at hH hd ⊢
  have hI : idS r.st = if (D : Int) > 3 then (⟨xn, xl, xs, D, 0, 0, 0, 0, 0, 0⟩, r3.st) else stS D 0 ⟨xn, xl, xs, D, 0, 0, 0, 0, 0, 0⟩ r3.st := by
    rw [idS, hH]; simp only [Int.toNat_natCast]
  by_cases h3 : (D : Int) > 3
  · rw [if_pos (by simpa using h3)]
    rw [if_pos h3] at hI
    exact fun w52 h52 => Ctr.ret (m' := m3) (L := []) r3 (by rw [hI]) ⟨p3.1, by rw [hI]⟩ (C.hid0 h52)
  rw [if_neg (by simpa using h3)]
  rw [if_neg h3] at hI
  intro w17 L18 h17 g17
  refine (c_steps ⟨xn, xl, xs, D, 0, 0, 0, 0, 0, 0⟩ ⟨by show (0 : Int) ≤ D; omega, by show (D : Int) < 256; omega⟩).call (As := [_]) (C.hidL h17 g17) trivial fun a0 m0 w20 hk hm0 _ C => ⟨_, _, _, rfl, hk, ?_⟩
  have hlen : (stL ⟨xn, xl, xs, D, 0, 0, 0, 0, 0, 0⟩).length = D := by rw [stL, List.length_take]; simp; omega
  rw [hlen]
  replace C : Ctx F m w w20 L18 m0 [rA b r3] := C
  refine ⟨fun i n l s d g0 i0 g1 i1 g2 i2 w' L' => ∃ (j : Nat) (x : I) (r' : Rd) (m' : Mem), i = j ∧ j ≤ D ∧ n = x.n ∧ l = x.l ∧ s = x.s ∧ d = x.d ∧ g0 = x.g0 ∧ i0 = x.i0 ∧ g1 = x.g1 ∧ i1 = x.i1 ∧ g2 = x.g2 ∧ i2 = x.i2 ∧ r'.ok m' ∧ stS (D - j) j x r'.st = idS r.st ∧ Ctx F m w w' L' m' [rA b r'], fun i _ _ _ _ _ _ _ _ _ _ _ => ((D : Int) - i).toNat, ⟨0, ⟨xn, xl, xs, D, 0, 0, 0, 0, 0, 0⟩, r3, m0, rfl, by omega, rfl, rfl, rfl, rfl, rfl, rfl, rfl, rfl, rfl, rfl, p3.1.mono hm0, hI.symm, C⟩, ?_⟩
  clear C hI hH
  rintro i n l s d g0 i0 g1 i1 g2 i2 wa La _ ⟨j, x, r', m', rfl, hj, rfl, rfl, rfl, rfl, rfl, rfl, rfl, rfl, rfl, rfl, hr', hst, C⟩
  by_cases hjd : j < D
  rotate_left
  · rw [if_neg (by simp only [decide_eq_true_eq]; omega)]
    have h0 : D - j = 0 := by omega
    rw [h0, stS] at hst
    exact fun w39 h39 => Ctr.ret (m' := m') (L := []) r' (by rw [← hst]) ⟨hr', by rw [← hst]⟩ (C.hid0 h39)
  rw [if_pos (by simp only [decide_eq_true_eq]; omega)]
  have hs1 : D - j = (D - (j + 1)) + 1 := by omega
  refine (c_RB b r').call (As := []) C hr' fun r5 m5 w41 hk hm5 p5 C => ⟨_, rfl, hk, ?_⟩
  refine (c_RB b r5).call (As := []) C p5.1 fun r6 m6 w44 hk hm6 p6 C => ⟨_, rfl, hk, by omega, by omega, ?_⟩
  rw [hs1, stS, ← p5.2, ← p6.2] at hst
  have e : IntKind.wrap .i64 ((j : Int) + 1) = ((j + 1 : Nat) : Int) := by rw [w_i64 (by omega) (by omega)]; omega
  rw [e]
  have hdec : Nat.le ((((D : Int) - ((j + 1 : Nat) : Int)).toNat) + 1) (((D : Int) - (j : Int)).toNat) := Nat.le_of_eq (by omega)
  refine ⟨⟨fun h wb Lb hb gb => ⟨rfl, ?_, hdec⟩, fun h wb Lb hb gb => ⟨rfl, ?_, hdec⟩⟩, fun h wb Lb hb gb => ⟨rfl, ?_, hdec⟩⟩
  · obtain rfl : j = 0 := by omega
    exact ⟨1, x.put 0 ((bS r'.st).1.toNat : Nat) ((bS r5.st).1.toNat : Nat), r6, m6, rfl, by omega, rfl, rfl, rfl, rfl, rfl, rfl, rfl, rfl, rfl, rfl, p6.1, hst, C.hidL hb gb⟩
  · obtain rfl : j = 1 := by omega
    exact ⟨2, x.put 1 ((bS r'.st).1.toNat : Nat) ((bS r5.st).1.toNat : Nat), r6, m6, rfl, by omega, rfl, rfl, rfl, rfl, rfl, rfl, rfl, rfl, rfl, rfl, p6.1, hst, C.hidL hb gb⟩
  · obtain rfl : j = 2 := by omega
    exact ⟨3, x.put 2 ((bS r'.st).1.toNat : Nat) ((bS r5.st).1.toNat : Nat), r6, m6, rfl, by omega, rfl, rfl, rfl, rfl, rfl, rfl, rfl, rfl, rfl, rfl, p6.1, hst, C.hidL hb gb⟩
end Go.Proofs
namespace Go.Proofs
open Go X RowKit
theorem okE_step {α : Type} {g : St → α × St} (hg : Dead g) (k : Nat) (s : St) (hn : (g s).2.2 ≠ 0 → (g s).2.1 = []) (pre : List α) : okE (pre ++ (someS g (k + 1) s).1, (someS g (k + 1) s).2) = okE (pre ++ [(g s).1] ++ (someS g k (g s).2).1, (someS g k (g s).2).2) := by
  rw [someS]
  by_cases h : (g s).2.2 = 0
  · rw [if_neg (by simpa using h), List.append_assoc]; rfl
  · rw [if_pos h, some_dead hg k h (hn h)]
    simp only [okE]; rw [if_pos h, if_pos h]
theorem someS_len {α : Type} (g : St → α × St) : ∀ (n : Nat) (s : St), (someS g n s).1.length ≤ n
  | 0, s => Nat.le_refl _
  | n + 1, s => by
    rw [someS]; split
    · exact Nat.zero_le _
    · have := someS_len g n (g s).2
      simp only [List.length_cons]; omega
theorem okE_len {α : Type} (p : List α × St) : (okE p).1.length ≤ p.1.length := by
  unfold okE; split
  · exact Nat.zero_le _
  · exact Nat.le_refl _
theorem ptsS_len (s : St) : (ptsS s).1.length ≤ 255 := by
  have := someS_len ptS (bS s).1.toNat (bS s).2
  have := bS_lt s
  show (someS ptS (bS s).1.toNat (bS s).2).1.length ≤ 255
  omega
theorem wrsS_len (s : St) : (wrsS s).1.length ≤ 255 := by
  have := someS_len wrS (bS s).1.toNat (bS s).2
  have := bS_lt s
  show (someS wrS (bS s).1.toNat (bS s).2).1.length ≤ 255
  omega
theorem prsS_len (s : St) : (prsS s).1.length ≤ 255 := by
  have h1 := someS_len prS (bS s).1.toNat (bS s).2
  have h2 := bS_lt s
  have h3 := okE_len (someS prS (bS s).1.toNat (bS s).2)
  show (okE (someS prS (bS s).1.toNat (bS s).2)).1.length ≤ 255
  omega
theorem evsS_len (s : St) : (evsS s).1.length ≤ 400 := by
  have h1 := someS_len evS (uS 400 s).1 (uS 400 s).2
  have h2 := uS_lt 400 s (by decide)
  have h3 := okE_len (someS evS (uS 400 s).1 (uS 400 s).2)
  show (okE (someS evS (uS 400 s).1 (uS 400 s).2)).1.length ≤ 400
  omega
theorem rd_canon {m : Mem} {r : Rd} (h : r.ok m) : r.st.2 ≠ 0 → r.st.1 = [] := fun he => h.2.1 he
theorem okE_err {α : Type} {l : List α} {s : St} (h : s.2 ≠ 0) : okE (l, s) = ([], s) := if_pos h
theorem okE_ok {α : Type} {l : List α} {s : St} (h : s.2 = 0) : okE (l, s) = (l, s) := if_neg (fun hc => hc h)
theorem c_vGet (b : Nat) (r : Rd) : Ctr Tryz.prog 89 #[.pointer (some ⟨b, 0, none⟩)] (fun m => r.ok m) [rA b r] (fun p : Sl × Rd => .agg (Vw.row ⟨(vwS r.st).1.1, (vwS r.st).1.2.1, p.1, (vwS r.st).1.2.2⟩).toArray) (fun p m => MSrc m 2 (slV p.1 (vwS r.st).1.2.2.length) (vwS r.st).1.2.2.length ((vwS r.st).1.2.2.flatMap Pr.row) ∧ (vwS r.st).1.2.2.length ≤ p.1.2 ∧ p.2.ok m ∧ p.2.st = (vwS r.st).2) (fun p => [rA b p.2]) := by
  refine Ctr.mk fun w F m C hr => x_vGet _ w _ fun w1 L2 h1 g1 => ?_
  refine (c_RB b r).call (As := []) (C.hidL h1 g1) hr fun r1 m1 w4 hk hm1 p1 C => ⟨_, rfl, hk, fun w6 L7 h6 g6 => ?_⟩
  refine (c_RU b r1 4294967295 (by decide)).call (As := []) (C.hidL h6 g6) p1.1 fun r2 m2 w9 hk hm2 p2 C => ⟨_, rfl, hk, fun w11 L12 h11 g11 => ?_⟩
  refine (c_RB b r2).call (As := []) (C.hidL h11 g11) p2.1 fun r3 m3 w14 hk hm3 p3 C => ⟨_, rfl, hk, ?_⟩
  have hlt := uS_lt 4294967295 r1.st (by decide)
  have hD := bS_lt r2.st
  rw [w_u32 (by omega) (by omega)]
  have hV : vwS r.st = if (prsS r2.st).2.2 ≠ 0 then (((0 : Int), (0 : Int), ([] : List Pr)), (prsS r2.st).2) else (((((bS r.st).1.toNat : Nat) : Int), (((uS 4294967295 r1.st).1 : Nat) : Int), (prsS r2.st).1), (prsS r2.st).2) := by
    simp only [vwS]; rw [← p1.2, ← p2.2]
  have hT : okE (someS prS (bS r2.st).1.toNat r3.st) = prsS r2.st := by rw [prsS, p3.2]
  generalize prsS r2.st = T at hV hT
  generalize ((bS r.st).1.toNat : Int) = g at hV ⊢
  generalize ((uS 4294967295 r1.st).1 : Int) = n at hV ⊢
  generalize (bS r2.st).1.toNat = D at hT hD ⊢
  generalize vwS r.st = V at hV ⊢
  refine ⟨fun i g' n' q k c w' L' => ∃ (j : Nat) (r' : Rd) (m' : Mem) (pre : List Pr), i = j ∧ j ≤ D ∧ g' = g ∧ n' = n ∧ k = pre.length ∧ pre.length = j ∧ r'.ok m' ∧ okE (pre ++ (someS prS (D - j) r'.st).1, (someS prS (D - j) r'.st).2) = T ∧ Ctx F m w w' L' m' [slA (.slice q pre.length c) pre.length (pre.flatMap Pr.row) 47 2, rA b r'], fun i _ _ _ _ _ _ => ((D : Int) - i).toNat, ⟨0, r3, m3, [], rfl, by omega, rfl, rfl, rfl, rfl, p3.1, hT, C.slNil⟩, ?_⟩
  clear C hT
  rintro i g' n' q k c w7 L8 _ ⟨j, r', m', pre, rfl, hj, rfl, rfl, rfl, hpl, hr', he, C⟩
  have finE : ∀ (w2 : World) (L2 : List Nat) (m2 : Mem), m'.le m2 → r'.e ≠ 0 → Ctx F m w w2 L2 m2 [slA (.slice q pre.length c) pre.length (pre.flatMap Pr.row) 47 2, rA b r'] → ∃ (p : Sl × Rd) (m' : Mem) (L : List Nat), Ending.returned (.agg #[.int .u8 0, .int .u32 0, .slice none 0 0]) = .returned (.agg (Vw.row ⟨V.1.1, V.1.2.1, p.1, V.1.2.2⟩).toArray) ∧ (MSrc m' 2 (slV p.1 V.1.2.2.length) V.1.2.2.length (V.1.2.2.flatMap Pr.row) ∧ V.1.2.2.length ≤ p.1.2 ∧ p.2.ok m' ∧ p.2.st = V.2) ∧ Ctx F m w w2 L m' [rA b p.2] := fun w2 L2 m2 hm hz C => by
    have hz' : r'.st.2 ≠ 0 := hz
    rw [some_dead dead_pr _ hz' (rd_canon hr' hz'), okE_err hz'] at he
    rw [← he, if_pos hz'] at hV
    subst hV
    exact ⟨((none, 0), r'), m2, L2, rfl, ⟨.nil .., Nat.le_refl _, hr'.mono hm, rfl⟩, C.pk [1] [0] rfl⟩
  have finK : ∀ (w2 : World) (L2 : List Nat) (m2 : Mem), m'.le m2 → r'.e = 0 → j = D → Ctx F m w w2 L2 m2 [slA (.slice q pre.length c) pre.length (pre.flatMap Pr.row) 47 2, rA b r'] → ∃ (p : Sl × Rd) (m' : Mem) (L : List Nat), Ending.returned (.agg #[.int .u8 g', .int .u32 n', .slice q pre.length c]) = .returned (.agg (Vw.row ⟨V.1.1, V.1.2.1, p.1, V.1.2.2⟩).toArray) ∧ (MSrc m' 2 (slV p.1 V.1.2.2.length) V.1.2.2.length (V.1.2.2.flatMap Pr.row) ∧ V.1.2.2.length ≤ p.1.2 ∧ p.2.ok m' ∧ p.2.st = V.2) ∧ Ctx F m w w2 L m' [rA b p.2] := fun w2 L2 m2 hm hz hjD C => by
    have hz' : r'.st.2 = 0 := hz
    have h0 : D - j = 0 := by omega
    simp only [h0, someS, List.append_nil] at he
    rw [okE_ok hz'] at he
    rw [← he, if_neg (fun hc => hc hz')] at hV
    subst hV
    have hc := C.slCap.1
    obtain ⟨m3, hm3, hs, D⟩ := C.slShare
    exact ⟨((q, c), r'), m3, L2, rfl, ⟨hs, hc, (hr'.mono hm).mono hm3, rfl⟩, D⟩
  by_cases hjn : j < D
  rotate_left
  · rw [if_neg (by simp only [decide_eq_true_eq]; omega)]
    refine (c_RErr b r').call (As := [_]) C.swap trivial fun _ m2 w27 hk hm2 _ C => ⟨_, rfl, hk, ?_⟩
    by_cases hz : r'.e = 0
    · rw [if_neg (by simp [hz])]
      exact fun w29 h29 => finK w29 [] m2 hm2 hz (by omega) (C.swap.hid0 h29)
    · rw [if_pos (by simp [hz])]
      exact fun w30 h30 => finE w30 [] m2 hm2 hz (C.swap.hid0 h30)
  rw [if_pos (by simp only [decide_eq_true_eq]; omega)]
  refine (c_RErr b r').call (As := [_]) C.swap trivial fun _ m2 w32 hk hm2 _ C => ⟨_, rfl, hk, ?_⟩
  by_cases hz : r'.e = 0
  rotate_left
  · rw [if_pos (by simp [hz])]
    refine (c_RErr b r').call (As := [_]) C trivial fun _ m3 w48 hk hm3 _ C => ⟨_, rfl, hk, ?_⟩
    rw [if_pos (by simp [hz])]
    exact fun w51 h51 => finE w51 [] m3 (hm2.le_trans hm3) hz (C.swap.hid0 h51)
  rw [if_neg (by simp [hz])]
  refine ⟨[], facts_nil _ _, fun w35 L36 h35 g35 => ?_⟩
  have h1 : D - j = (D - (j + 1)) + 1 := by omega
  refine (c_GetPr b r').call (As := [_]) (C.hidL h35 g35) (hr'.mono hm2) fun r2 m3 w38 hk hm3 p2 C => ⟨_, _, rfl, hk, facts_nil _ _, facts_nil _ _, ?_⟩
  rw [h1, okE_step dead_pr _ _ (by rw [← p2.2]; exact rd_canon p2.1), ← p2.2] at he
  generalize (prS r'.st).1 = x at he ⊢
  have D0 := (C.swap.alloc x.row 47).swap
  have hcl : Cells _ ⟨w38.heap.size, 0, none⟩ x.row := (C.swap.alloc x.row 47).blkCells (o := 0) fun k v e => by simpa using e
  obtain ⟨q2, c2, w25, ha, hkk, D2⟩ := Ctx.app2 (P := Tryz.prog) (bytes := 4) (t := 54) (t2 := 54) D0 54 (by kernel_rfl) (.some ⟨w38.heap.size, 0, none⟩ 1 1 x.row rfl hcl) (by unfold maxLen; omega) (by omega) (pr_one _)
  have e1 : (pre ++ [x]).length = pre.length + 1 := by simp
  have e3 : (pre ++ [x]).flatMap Pr.row = pre.flatMap Pr.row ++ x.row := by simp
  have e : IntKind.wrap .u8 ((j : Int) + 1) = ((j + 1 : Nat) : Int) := by rw [w_u8 (by omega) (by omega)]; omega
  refine ⟨q2, _, c2, w25, ha, hkk, fun w45 L46 h45 g45 => ⟨rfl, ⟨j + 1, r2, m3, pre ++ [x], e, hjn, rfl, rfl, e1.symm, by rw [e1, hpl], p2.1, he, ?_⟩, ?_⟩⟩
  · rw [← e3, ← e1] at D2
    exact (D2.pk [0, 2] [1] rfl).hidL h45 g45
  · rw [e]; exact Nat.le_of_eq (by show ((D : Int) - ((j + 1 : Nat) : Int)).toNat + 1 = ((D : Int) - (j : Int)).toNat; omega)
theorem c_eGet (b : Nat) (r : Rd) : Ctr Tryz.prog 139 #[.pointer (some ⟨b, 0, none⟩)] (fun m => r.ok m) [rA b r] (fun p : En × Rd => .agg p.1.row.toArray) (fun p m => EnM m p.1 ∧ EnC p.1 ∧ p.1.er = (evS r.st).1 ∧ p.2.ok m ∧ p.2.st = (evS r.st).2) (fun p => [rA b p.2]) := by
  refine Ctr.mk fun w F m C hr => x_eGet _ w _ fun w1 L2 h1 g1 => ?_
  refine (c_RB b r).call (As := []) (C.hidL h1 g1) hr fun r1 m1 w4 hk hm1 p1 C => ⟨_, rfl, hk, fun w6 L7 h6 g6 => ?_⟩
  refine (c_RErr b r1).call (As := []) (C.hidL h6 g6) trivial fun _ m2 w9 hk hm2 _ C => ⟨_, rfl, hk, ?_⟩
  have q1 := p1.1.mono hm2
  have hE : evS r.st = if r1.st.2 ≠ 0 then (Ev.zero 0, r1.st) else if (bS r.st).1.toNat = 3 then evK 3 r1.st else if (bS r.st).1.toNat = 0 then evC 0 r1.st else if (bS r.st).1.toNat = 1 then evBk 1 r1.st else if (bS r.st).1.toNat = 2 then evKl 2 r1.st else (Ev.zero ((bS r.st).1.toNat : Nat), failS r1.st 6) := by
    simp only [evS]; rw [← p1.2]
  have hK := bS_lt r.st
  generalize (bS r.st).1.toNat = K at hE hK ⊢
  generalize evS r.st = E at hE ⊢
  have nM : ∀ (m : Mem) (e : En), e.pq = (none, 0) → e.ps = [] → e.wq = (none, 0) → e.ws = [] → EnM m e ∧ EnC e := fun m e h1 h2 h3 h4 => by
    obtain ⟨kd, id, fl, pq, ps, rc, rv, wq, ws, vn, vl⟩ := e
    cases h1; cases h2; cases h3; cases h4
    exact ⟨⟨.nil .., .nil .., Nat.zero_le _, Nat.zero_le _⟩, ⟨Nat.le_refl _, Nat.le_refl _⟩⟩
  by_cases hz : r1.e = 0
  rotate_left
  · rw [if_pos (by simp [hz])]
    rw [if_pos (show r1.st.2 ≠ 0 from hz)] at hE
    subst hE
    have := nM m2 ⟨0, I.zero, 0, (none, 0), [], 0, ByteArray.mk #[], (none, 0), [], 0, 0⟩ rfl rfl rfl rfl
    exact fun w122 h122 => Ctr.ret (m' := m2) (L := []) (⟨0, I.zero, 0, (none, 0), [], 0, ByteArray.mk #[], (none, 0), [], 0, 0⟩, r1) rfl ⟨this.1, this.2, rfl, q1, rfl⟩ (C.hid0 h122)
  rw [if_neg (by simp [hz])]
  rw [if_neg (show ¬ r1.st.2 ≠ 0 from fun h => h hz)] at hE
  by_cases k3 : K = 3
  · subst k3
    rw [if_pos (by rfl)]
    rw [if_pos rfl] at hE
    refine (c_GetID b r1).call (As := []) C q1 fun r2 m3 w81 hk hm3 p2 C => ⟨_, _, _, _, _, _, _, _, _, _, rfl, hk, fun w92 L93 h92 g92 => ?_⟩
    refine (c_RU b r2 4294967295 (by decide)).call (As := []) (C.hidL h92 g92) p2.1 fun r3 m4 w95 hk hm4 p3 C => ⟨_, rfl, hk, fun w97 L98 h97 g97 => ?_⟩
    refine (c_pGetAll b r3).call (As := []) (C.hidL h97 g97) p3.1 fun p m5 w100 hk hm5 p4 C => ⟨_, _, _, rfl, hk, ?_⟩
    rw [if_pos (by rfl)]
    intro w105 L106 h105 g105
    refine (c_GetRes b p.2).call (As := []) (C.hidL h105 g105) p4.2.2.1 fun r5 m6 w108 hk hm6 p5 C => ⟨_, _, rfl, hk, fun w111 L112 h111 g111 => ?_⟩
    refine (c_RB b r5).call (As := []) (C.hidL h111 g111) p5.1 fun r6 m7 w114 hk hm7 p6 C => ⟨_, rfl, hk, ?_⟩
    have hlt := uS_lt 4294967295 r2.st (by decide)
    have hw := bS_lt r5.st
    rw [w_u32 (by omega) (by omega), w_i64 (by omega) (by omega)]
    refine (c_someW b r6 (bS r5.st).1.toNat (by omega)).call (As := []) C p6.1 fun q m8 w117 hk hm8 p7 C => ⟨_, _, _, rfl, hk, fun w121 h121 => ?_⟩
    have hws : wrsS r5.st = someS wrS (bS r5.st).1.toNat r6.st := by rw [wrsS, p6.2]
    rw [← hws] at p7 ⊢
    have hpl := ptsS_len r3.st
    have hwl := wrsS_len r5.st
    refine Ctr.ret (m' := m8) (L := []) (⟨3, (idS r1.st).1, ((uS 4294967295 r2.st).1 : Nat), p.1, (ptsS r3.st).1, (resS p.2.st).1.c, (resS p.2.st).1.v, q.1, (wrsS r5.st).1, 0, 0⟩, q.2) rfl ⟨⟨((p4.1.mono hm6).mono hm7).mono hm8, p7.1, by show (ptsS r3.st).1.length ≤ _; omega, by show (wrsS r5.st).1.length ≤ _; omega⟩, ⟨p4.2.1, p7.2.1⟩, ?_, p7.2.2.1, ?_⟩ (C.hid0 h121)
    · subst hE; simp only [evK, evC]; rw [← p2.2, ← p3.2, ← p4.2.2.2, ← p5.2]; rfl
    · subst hE; simp only [evK, evC]; rw [← p2.2, ← p3.2, ← p4.2.2.2, ← p5.2]; exact p7.2.2.2
  rw [if_neg (by simp only [beq_iff_eq]; omega)]
  rw [if_neg k3] at hE
  by_cases k0 : K = 0
  · subst k0
    rw [if_pos (by rfl)]
    rw [if_pos rfl] at hE
    refine (c_GetID b r1).call (As := []) C q1 fun r2 m3 w81 hk hm3 p2 C => ⟨_, _, _, _, _, _, _, _, _, _, rfl, hk, fun w92 L93 h92 g92 => ?_⟩
    refine (c_RU b r2 4294967295 (by decide)).call (As := []) (C.hidL h92 g92) p2.1 fun r3 m4 w95 hk hm4 p3 C => ⟨_, rfl, hk, fun w97 L98 h97 g97 => ?_⟩
    refine (c_pGetAll b r3).call (As := []) (C.hidL h97 g97) p3.1 fun p m5 w100 hk hm5 p4 C => ⟨_, _, _, rfl, hk, ?_⟩
    rw [if_neg (by decide)]
    have hlt := uS_lt 4294967295 r2.st (by decide)
    rw [w_u32 (by omega) (by omega)]
    have hpl := ptsS_len r3.st
    refine fun w104 h104 => Ctr.ret (m' := m5) (L := []) (⟨0, (idS r1.st).1, ((uS 4294967295 r2.st).1 : Nat), p.1, (ptsS r3.st).1, 0, ByteArray.mk #[], (none, 0), [], 0, 0⟩, p.2) rfl ⟨⟨p4.1, .nil .., by show (ptsS r3.st).1.length ≤ _; omega, Nat.zero_le _⟩, ⟨p4.2.1, Nat.le_refl _⟩, ?_, p4.2.2.1, ?_⟩ (C.hid0 h104)
    · subst hE; simp only [evC]; rw [← p2.2, ← p3.2]; rfl
    · subst hE; simp only [evC]; rw [← p2.2, ← p3.2]; exact p4.2.2.2
  rw [if_neg (by simp only [beq_iff_eq]; omega)]
  rw [if_neg k0] at hE
  by_cases k1 : K = 1
  · subst k1
    rw [if_pos (by rfl)]
    rw [if_pos rfl] at hE
    refine (c_GetID b r1).call (As := []) C q1 fun r2 m3 w81 hk hm3 p2 C => ⟨_, _, _, _, _, _, _, _, _, _, rfl, hk, fun w92 L93 h92 g92 => ?_⟩
    refine (c_GetRes b r2).call (As := []) (C.hidL h92 g92) p2.1 fun r5 m6 w108 hk hm6 p5 C => ⟨_, _, rfl, hk, fun w37 h37 => ?_⟩
    have := nM m6 ⟨1, (idS r1.st).1, 0, (none, 0), [], (resS r2.st).1.c, (resS r2.st).1.v, (none, 0), [], 0, 0⟩ rfl rfl rfl rfl
    refine Ctr.ret (m' := m6) (L := []) (⟨1, (idS r1.st).1, 0, (none, 0), [], (resS r2.st).1.c, (resS r2.st).1.v, (none, 0), [], 0, 0⟩, r5) rfl ⟨this.1, this.2, ?_, p5.1, ?_⟩ (C.hid0 h37)
    · subst hE; simp only [evBk]; rw [← p2.2]; rfl
    · subst hE; simp only [evBk]; rw [← p2.2]; exact p5.2
  rw [if_neg (by simp only [beq_iff_eq]; omega)]
  rw [if_neg k1] at hE
  by_cases k2 : K = 2
  · subst k2
    rw [if_pos (by rfl)]
    rw [if_pos rfl] at hE
    refine (c_GetProc b r1).call (As := []) C q1 fun r2 m3 w15 hk hm3 p2 C => ⟨_, _, rfl, hk, fun w18 h18 => ?_⟩
    have := nM m3 ⟨2, I.zero, 0, (none, 0), [], 0, ByteArray.mk #[], (none, 0), [], ((procS r1.st).1.1.toNat : Nat), ((procS r1.st).1.2 : Nat)⟩ rfl rfl rfl rfl
    refine Ctr.ret (m' := m3) (L := []) (⟨2, I.zero, 0, (none, 0), [], 0, ByteArray.mk #[], (none, 0), [], ((procS r1.st).1.1.toNat : Nat), ((procS r1.st).1.2 : Nat)⟩, r2) rfl ⟨this.1, this.2, ?_, p2.1, ?_⟩ (C.hid0 h18)
    · subst hE; rfl
    · subst hE; exact p2.2
  rw [if_neg (by simp only [beq_iff_eq]; omega)]
  rw [if_neg k2] at hE
  refine (c_RFail6 b r1).call (As := []) C trivial fun _ m3 w12 hk hm3 _ C => ⟨rfl, hk, fun w13 h13 => ?_⟩
  subst hE
  have := nM m3 ⟨(K : Nat), I.zero, 0, (none, 0), [], 0, ByteArray.mk #[], (none, 0), [], 0, 0⟩ rfl rfl rfl rfl
  exact Ctr.ret (m' := m3) (L := []) (⟨(K : Nat), I.zero, 0, (none, 0), [], 0, ByteArray.mk #[], (none, 0), [], 0, 0⟩, ⟨(none, 0), [], (failS r1.st 6).2⟩) rfl ⟨this.1, this.2, rfl, okNil _ _ _, rfl⟩ (C.hid0 h13)
def EsC (m : Mem) (q : Sl) (l : List En) : Prop := EsM m q l ∧ ∀ e ∈ l, EnC e
theorem EsC.mono {m m' : Mem} {q : Sl} {l : List En} (h : EsC m q l) (hm : m.le m') : EsC m' q l := ⟨h.1.mono hm, h.2⟩
theorem escNil (m : Mem) : EsC m (none, 0) [] := ⟨esNil m, by simp⟩
theorem c_someE (b : Nat) (r : Rd) (n : Nat) (hn : n ≤ 1000) : Ctr Tryz.prog 138 #[.pointer (some ⟨b, 0, none⟩), .int .i64 (n : Int), .func (.func 139) #[] #[]] (fun m => r.ok m) [rA b r] (fun p : Sl × List En × Rd => slV p.1 p.2.1.length) (fun p m => EsC m p.1 p.2.1 ∧ p.2.1.map En.er = (someS evS n r.st).1 ∧ p.2.2.ok m ∧ p.2.2.st = (someS evS n r.st).2) (fun p => [rA b p.2.2]) := by
  refine Ctr.mk fun w F m C hr => x_someE _ _ w _ ?_
  generalize hT : someS evS n r.st = T
  refine ⟨fun q k c i w' L' => ∃ (j : Nat) (r' : Rd) (m' : Mem) (pre : List En), i = j ∧ j ≤ n ∧ k = pre.length ∧ pre.length = j ∧ r'.ok m' ∧ (∀ e ∈ pre, EnM m' e ∧ EnC e) ∧ (pre.map En.er ++ (someS evS (n - j) r'.st).1, (someS evS (n - j) r'.st).2) = T ∧ Ctx F m w w' L' m' [slA (.slice q pre.length c) pre.length (pre.flatMap En.row) 142 18, rA b r'], fun _ _ _ i _ => ((n : Int) - i).toNat, ⟨0, r, m, [], rfl, by omega, rfl, rfl, hr, by simp, hT, C.slNil⟩, ?_⟩
  clear C
  rintro q k c i w7 L8 _ ⟨j, r', m', pre, rfl, hj, rfl, hpl, hr', hpr, he, C⟩
  have fin : ∀ (r2 : Rd) (m2 : Mem) (w2 : World) (L2 : List Nat), m'.le m2 → r2.ok m2 → (pre.map En.er, r2.st) = T → Ctx F m w w2 L2 m2 [slA (.slice q pre.length c) pre.length (pre.flatMap En.row) 142 18, rA b r2] → ∃ (p : Sl × List En × Rd) (m' : Mem) (L : List Nat), Ending.returned (Value.slice q pre.length c) = .returned (slV p.1 p.2.1.length) ∧ (EsC m' p.1 p.2.1 ∧ p.2.1.map En.er = T.1 ∧ p.2.2.ok m' ∧ p.2.2.st = T.2) ∧ Ctx F m w w2 L m' [rA b p.2.2] := fun r2 m2 w2 L2 hm h1 h2 C => by
    subst h2
    obtain ⟨m3, hm3, hs, D⟩ := C.slShare
    exact ⟨((q, c), pre, r2), m3, L2, rfl, ⟨⟨⟨hs, fun e h => ((hpr e h).1.mono hm).mono hm3⟩, fun e h => (hpr e h).2⟩, rfl, h1.mono hm3, rfl⟩, D⟩
  by_cases hjn : j < n
  rotate_left
  · rw [if_neg (by simp only [decide_eq_true_eq]; omega)]
    have h0 : n - j = 0 := by omega
    simp only [h0, someS, List.append_nil] at he
    exact fin r' m' w7 L8 (fun _ _ h => h) hr' he C
  rw [if_pos (by simp only [decide_eq_true_eq]; omega)]
  have h1 : n - j = (n - (j + 1)) + 1 := by omega
  refine (c_eGet b r').call (As := [_]) C.swap hr' fun p m2 w10 hk hm2 p2 C => ⟨_, _, _, _, _, _, _, _, _, _, _, _, _, _, _, _, _, _, _, _, _, _, rfl, hk.size, fun w16 L17 h16 g16 => ?_⟩
  obtain ⟨x, r2⟩ := p
  obtain ⟨hxm, hxc, hx, hok, hst⟩ := p2
  simp only at hxm hxc hx hok hst C ⊢
  refine (c_RErr b r2).call (As := [_]) (C.noL.hidL h16 g16) trivial fun _ m3 w19 hk hm3 _ C => ⟨_, rfl, hk, ?_⟩
  rw [h1] at he
  simp only [someS] at he
  have e2 : r2.e = (evS r'.st).2.2 := by rw [← hst]; rfl
  by_cases hz : r2.e = 0
  rotate_left
  · rw [if_pos (by simp [hz])]
    rw [if_pos (by rw [← e2]; exact hz), List.append_nil, ← hst] at he
    exact fin r2 m3 w19 L17 (hm2.le_trans hm3) (hok.mono hm3) he C.swap
  rw [if_neg (by simp [hz])]
  rw [if_neg (by rw [← e2]; simpa using hz), ← hst, ← hx] at he
  have D0 := (C.swap.alloc x.row 142).swap
  have hcl : Cells _ ⟨w19.heap.size, 0, none⟩ x.row := (C.swap.alloc x.row 142).blkCells (o := 0) fun k v e => by simpa using e
  obtain ⟨q2, c2, w25, ha, hkk, D2⟩ := Ctx.app2 (P := Tryz.prog) (bytes := 400) (t := 57) (t2 := 57) D0 57 (by kernel_rfl) (.some ⟨w19.heap.size, 0, none⟩ 1 1 x.row rfl hcl) (by unfold maxLen; omega) (by omega) (en_one _)
  have e1 : (pre ++ [x]).length = pre.length + 1 := by simp
  have e3 : (pre ++ [x]).flatMap En.row = pre.flatMap En.row ++ x.row := by simp
  have e : IntKind.wrap .i64 ((j : Int) + 1) = ((j + 1 : Nat) : Int) := by rw [w_i64 (by omega) (by omega)]; omega
  refine ⟨q2, _, c2, w25, ha, hkk, ⟨j + 1, r2, m3, pre ++ [x], e, hjn, e1.symm, by rw [e1, hpl], hok.mono hm3, ?_, ?_, ?_⟩, ?_⟩
  · intro y hy
    rcases List.mem_append.1 hy with hy | hy
    · exact ⟨((hpr y hy).1.mono hm2).mono hm3, (hpr y hy).2⟩
    · simp only [List.mem_singleton] at hy; subst hy; exact ⟨hxm.mono hm3, hxc⟩
  · rw [← he, List.map_append, List.append_assoc]; rfl
  · rw [← e3, ← e1] at D2
    exact D2.pk [0, 2] [1] rfl
  · rw [e]; exact Nat.le_of_eq (by show ((n : Int) - ((j + 1 : Nat) : Int)).toNat + 1 = ((n : Int) - (j : Int)).toNat; omega)
theorem c_eGetAll (b : Nat) (r : Rd) : Ctr Tryz.prog 90 #[.pointer (some ⟨b, 0, none⟩)] (fun m => r.ok m) [rA b r] (fun p : Sl × List En × Rd => slV p.1 p.2.1.length) (fun p m => EsC m p.1 p.2.1 ∧ p.2.1.map En.er = (evsS r.st).1 ∧ p.2.2.ok m ∧ p.2.2.st = (evsS r.st).2) (fun p => [rA b p.2.2]) := by
  refine Ctr.mk fun w F m C hr => x_eGetAll _ w _ ?_
  refine (c_RU b r 400 (by decide)).call (As := []) C hr fun r1 m1 w2 hk hm1 p1 C => ⟨_, rfl, hk.size, ?_⟩
  have hlt := uS_lt 400 r.st (by decide)
  rw [w_i64 (by omega) (by omega)]
  refine (c_someE b r1 (uS 400 r.st).1 (by omega)).call (As := []) C p1.1 fun p m2 w5 hk hm2 p2 C => ⟨_, _, _, rfl, hk.size, ?_⟩
  obtain ⟨q, l, r2⟩ := p
  obtain ⟨g1, g2, g3, g4⟩ := p2
  simp only at g1 g2 g3 g4 C ⊢
  have hE : evsS r.st = okE (l.map En.er, r2.st) := by rw [evsS, ← p1.2, g2, g4]
  refine (c_RErr b r2).call (As := []) C trivial fun _ m3 w10 hk hm3 _ C => ⟨_, rfl, hk.size, ?_⟩
  by_cases hz : r2.e = 0
  · rw [if_neg (by simp [hz])]
    rw [okE_ok (show r2.st.2 = 0 from hz)] at hE
    exact Ctr.ret (m' := m3) (L := []) (q, l, r2) rfl ⟨g1.mono hm3, by rw [hE], g3.mono hm3, by rw [hE]⟩ C
  · rw [if_pos (by simp [hz])]
    rw [okE_err (show r2.st.2 ≠ 0 from hz)] at hE
    exact Ctr.ret (m' := m3) (L := []) ((none, 0), [], r2) rfl ⟨escNil _, by rw [hE]; rfl, g3.mono hm3, by rw [hE]⟩ C
theorem c_someM (b : Nat) (r : Rd) (n : Nat) (hn : n ≤ 1000) : Ctr Tryz.prog 141 #[.agg #[.pointer (some ⟨b, 0, none⟩)], .int .i64 (n : Int), .func (.func 95) #[] #[]] (fun m => r.ok m) [rA b r] (fun p : Sl × Rd => slV p.1 (okE (someS prS n r.st)).1.length) (fun p m => MSrc m 2 (slV p.1 (okE (someS prS n r.st)).1.length) (okE (someS prS n r.st)).1.length ((okE (someS prS n r.st)).1.flatMap Pr.row) ∧ (okE (someS prS n r.st)).1.length ≤ p.1.2 ∧ p.2.ok m ∧ p.2.st = (okE (someS prS n r.st)).2) (fun p => [rA b p.2]) := by
  refine Ctr.mk fun w F m C hr => x_someM _ _ w _ fun w1 L2 h1 g1 => ?_
  generalize hT : okE (someS prS n r.st) = T
  replace C := C.hidL h1 g1
  refine ⟨fun q k c i w' L' => ∃ (j : Nat) (r' : Rd) (m' : Mem) (pre : List Pr), i = j ∧ j ≤ n ∧ k = pre.length ∧ pre.length = j ∧ r'.ok m' ∧ (0 < j → r'.e = 0) ∧ okE (pre ++ (someS prS (n - j) r'.st).1, (someS prS (n - j) r'.st).2) = T ∧ Ctx F m w w' L' m' [slA (.slice q pre.length c) pre.length (pre.flatMap Pr.row) 47 2, rA b r'], fun _ _ _ i _ => ((n : Int) - i).toNat, ⟨0, r, m, [], rfl, by omega, rfl, rfl, hr, fun h => absurd h (by omega), hT, C.slNil⟩, ?_⟩
  clear C
  rintro q k c i w9 L10 _ ⟨j, r', m', pre, rfl, hj, rfl, hpl, hr', hj0, he, C⟩
  by_cases hjn : j < n
  rotate_left
  · rw [if_neg (by simp only [decide_eq_true_eq]; omega)]
    have h0 : n - j = 0 := by omega
    simp only [h0, someS, List.append_nil] at he
    have hT1 : T.1 = pre := by
      by_cases hz : r'.e = 0
      · rw [← he, okE_ok (show r'.st.2 = 0 from hz)]
      · have : j = 0 := by
          rcases Nat.eq_zero_or_pos j with h | h
          · exact h
          · exact absurd (hj0 h) hz
        have hp0 : pre = [] := List.eq_nil_of_length_eq_zero (by omega)
        rw [← he, okE_err (show r'.st.2 ≠ 0 from hz), hp0]
    have hT2 : T.2 = r'.st := by rw [← he]; unfold okE; split <;> rfl
    rw [hT1, hT2]
    have hc := C.slCap.1
    obtain ⟨m3, hm3, hs, D⟩ := C.slShare
    exact Ctr.ret (m' := m3) (L := L10) ((q, c), r') rfl ⟨hs, hc, hr'.mono hm3, rfl⟩ D
  rw [if_pos (by simp only [decide_eq_true_eq]; omega)]
  have h1 : n - j = (n - (j + 1)) + 1 := by omega
  refine (c_GetPr b r').call (As := [_]) C.swap hr' fun r2 m2 w12 hk hm2 p2 C => ⟨_, _, rfl, hk, ?_⟩
  rw [h1, okE_step dead_pr _ _ (by rw [← p2.2]; exact rd_canon p2.1), ← p2.2] at he
  generalize (prS r'.st).1 = x at he ⊢
  have D0 := (C.swap.alloc x.row 47).swap
  have hcl : Cells _ ⟨w12.heap.size, 0, none⟩ x.row := (C.swap.alloc x.row 47).blkCells (o := 0) fun k v e => by simpa using e
  obtain ⟨q2, c2, w18, ha, hkk, D2⟩ := Ctx.app2 (P := Tryz.prog) (bytes := 4) (t := 54) (t2 := 54) D0 54 (by kernel_rfl) (.some ⟨w12.heap.size, 0, none⟩ 1 1 x.row rfl hcl) (by unfold maxLen; omega) (by omega) (pr_one _)
  have e1 : (pre ++ [x]).length = pre.length + 1 := by simp
  have e3 : (pre ++ [x]).flatMap Pr.row = pre.flatMap Pr.row ++ x.row := by simp
  have e : IntKind.wrap .i64 ((j : Int) + 1) = ((j + 1 : Nat) : Int) := by rw [w_i64 (by omega) (by omega)]; omega
  rw [← e3, ← e1] at D2
  replace D2 := D2.pk [2, 0] [1] rfl
  refine ⟨q2, _, c2, w18, ha, hkk, ?_⟩
  refine (c_RErr b r2).call (As := [_]) D2 trivial fun _ m3 w20 hk hm3 _ C => ⟨_, rfl, hk, ?_⟩
  by_cases hz : r2.e = 0
  · rw [if_neg (by simp [hz])]
    refine ⟨rfl, ⟨j + 1, r2, m3, pre ++ [x], e, hjn, e1.symm, by rw [e1, hpl], p2.1.mono hm3, fun _ => hz, he, C.swap⟩, ?_⟩
    rw [e]; exact Nat.le_of_eq (by show ((n : Int) - ((j + 1 : Nat) : Int)).toNat + 1 = ((n : Int) - (j : Int)).toNat; omega)
  · rw [if_pos (by simp [hz])]
    have hz' : r2.st.2 ≠ 0 := hz
    rw [some_dead dead_pr _ hz' (rd_canon p2.1 hz'), okE_err hz'] at he
    subst he
    exact Ctr.ret (m' := m3) (L := L10) ((none, 0), r2) rfl ⟨.nil .., Nat.le_refl _, p2.1.mono hm3, rfl⟩ (C.pk [0] [1] rfl)
end Go.Proofs
