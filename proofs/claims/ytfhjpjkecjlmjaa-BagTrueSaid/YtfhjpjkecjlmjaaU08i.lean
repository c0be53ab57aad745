import Derived.Test.YtfhjpjkecjlmjaaU08h
set_option linter.unusedVariables false
set_option linter.unusedSimpArgs false
set_option maxRecDepth 10000
namespace Go.Proofs
open Go X RowKit
/-- the search for a parcel that was put -/
def InnerVC (w : World) (R : Ending → World → Prop) (q15 : Option Addr) (k16 : Nat) (row1 row2 : List Value) (n230 n231 n232 n233 : Int) (q234 : Option Addr) (k235 k236 : Nat) (b237 : Bool) (n243 : Int) (w242 : World) (L240 : List Nat) (K : World → List Nat → Prop) : Prop :=
∃ x244 : Bool → Int → World → List Nat → Prop, ∃ x245 : Bool → Int → World → Nat, (x244 (n243 != 0) 0 w242 (L240)) ∧
             ∀ b246 : Bool, ∀ n247 : Int, ∀ w248 : World, ∀ L249 : List Nat, (X.LF (w).heap.size w248 L249) →
             (x244 b246 n247 w248 L249) →
             if (decide (n247 < ((k16 : Nat) : Int)) && (!b246)) = true then
              ∃ x250 : X.Facts, (X.FactsW x250 w248 (L249)) ∧
              (0 ≤ n247) ∧
              (n247 < ((k16 : Nat) : Int)) ∧
              X.onSome (q15) fun p251 =>
              ∃ q252 : Option Addr, ∃ k253 : Nat, ∃ k254 : Nat, ((((p251.add ((n247).toNat * 6)).add 4), [(.slice (q252) k253 k254)]) ∈ x250) ∧
              ∀ w255 : World, ∀ L256 : List Nat, (X.Hid (L249) w248 w255) →
              (X.NewL (w).heap.size (L249) w248 w255 L256) →
              X.CallX Try.prog 17 #[(.slice (q252) k253 k254), (.slice (q234) k235 k236)] w255 fun e257 w258 =>
               ∃ n259 : Int, (e257 = .returned (.int .i64 n259)) ∧
               (X.Kept L256 w255 w258) ∧
               ∃ x260 : X.Facts, (X.FactsW x260 w258 (L256)) ∧
               (0 ≤ n247) ∧
               (n247 < ((k16 : Nat) : Int)) ∧
               X.onSome (q15) fun p261 =>
               ∃ n262 : Int, ∃ n263 : Int, ((((p261.add ((n247).toNat * 6)).add 0), [(.int .u8 n262), (.int .u16 n263)]) ∈ x260) ∧
               ∀ w264 : World, ∀ L265 : List Nat, (X.Hid (L256) w258 w264) →
               (X.NewL (w).heap.size (L256) w258 w264 L265) →
               X.CallX Try.prog 18 #[(.agg #[(.int .u8 n230), (.int .u16 n231)])] w264 fun e266 w267 =>
                ∃ n268 : Int, ∃ n269 : Int, (e266 = .returned (.agg #[(.int .u8 n268), (.int .u16 n269)])) ∧
                (X.Kept L265 w264 w267) ∧
                (X.FactsW x260 w267 (L265)) ∧
                if (((n268 == n262) && (n269 == n263)) == true) = true then
                 (0 ≤ n247) ∧
                 (n247 < ((k16 : Nat) : Int)) ∧
                 X.onSome (q15) fun p270 =>
                 ∃ n271 : Int, ∃ n272 : Int, ((((p270.add ((n247).toNat * 6)).add 2), [(.int .u8 n271), (.int .u16 n272)]) ∈ x260) ∧
                 X.CallX Try.prog 18 #[(.agg #[(.int .u8 n232), (.int .u16 n233)])] w267 fun e273 w274 =>
                  ∃ n275 : Int, ∃ n276 : Int, (e273 = .returned (.agg #[(.int .u8 n275), (.int .u16 n276)])) ∧
                  (X.Kept L265 w267 w274) ∧
                  (X.FactsW x260 w274 (L265)) ∧
                  (row1 = row1) ∧
                  (row2 = row2) ∧
                  (x244 ((true && ((n275 == n271) && (n276 == n272))) && (((n259 == 0) && (!b237)) || ((decide (n259 ≥ 1) && decide (n259 ≤ 4)) && b237))) (IntKind.wrap .i64 (n247 + 1)) w274 (L265)) ∧
                  Nat.le ((x245 ((true && ((n275 == n271) && (n276 == n272))) && (((n259 == 0) && (!b237)) || ((decide (n259 ≥ 1) && decide (n259 ≤ 4)) && b237))) (IntKind.wrap .i64 (n247 + 1)) w274) + 1) (x245 b246 n247 w248)
                else
                 (row1 = row1) ∧
                 (row2 = row2) ∧
                 (x244 (false && (((n259 == 0) && (!b237)) || ((decide (n259 ≥ 1) && decide (n259 ≤ 4)) && b237))) (IntKind.wrap .i64 (n247 + 1)) w267 (L265)) ∧
                 Nat.le ((x245 (false && (((n259 == 0) && (!b237)) || ((decide (n259 ≥ 1) && decide (n259 ≤ 4)) && b237))) (IntKind.wrap .i64 (n247 + 1)) w267) + 1) (x245 b246 n247 w248)
             else
              if (!b246) = true then
               R (.returned (.bool false)) w248
              else
               K w248 L249
/-- was a parcel p put that is told as r? -/
def OkR (p r : Pc) : Prop := p.fn = r.fn ∧ p.fl = r.fl ∧ p.tn = r.tn ∧ p.tl = r.tl ∧ ((r.bad = false ∧ r.bs = p.bs) ∨ (r.bad = true ∧ ∃ (a : Nat) (mask : Int), 0 < mask ∧ mask < 4294967296 ∧ a + 4 ≤ p.bs.length ∧ r.bs = spoil p.bs a mask 4))
abbrev putA (q : Option Addr) (c : Nat) (l : List Pr) : Asn := slA (.slice q l.length c) l.length (rows l) 34 6
theorem innerOK {w wk : World} {L : List Nat} {m : Mem} {As : List Asn} (R : Ending → World → Prop) (q : Option Addr) (c : Nat) (put : List Pr) (row1 row2 : List Value) (r : Pc) (qr : Option Addr) (cr : Nat) (n : Int) (K : World → List Nat → Prop)
    (C : Ctx [] (memOf w) w wk L m (putA q c put :: As)) (hb : ∀ p ∈ put, MSrc m 1 (.slice p.q p.p.bs.length p.c) p.p.bs.length (byV p.p.bs)) (hl : ∀ p ∈ put, p.p.bs.length ≤ 5000) (hlen : put.length ≤ 1000)
    (hr : MSrc m 1 (.slice qr r.bs.length cr) r.bs.length (byV r.bs)) (hf : n ≠ 0 ∨ ∃ p ∈ put, OkR p.p r) (hK : ∀ w' L' m', m.le m' → Ctx [] (memOf w) w w' L' m' (putA q c put :: As) → K w' L') :
    InnerVC w R q put.length row1 row2 r.fn r.fl r.tn r.tl qr r.bs.length cr r.bad n wk L K := by
  have hf' : (n != 0) = true ∨ ∃ k : Nat, k < put.length ∧ ∀ h : k < put.length, OkR put[k].p r := by
    rcases hf with h | ⟨p, hp, ho⟩
    · exact .inl (by simpa using h)
    · obtain ⟨k, hk, rfl⟩ := List.getElem_of_mem hp
      exact .inr ⟨k, hk, fun _ => ho⟩
  refine ⟨fun b i w' L' => ∃ j : Nat, i = j ∧ j ≤ put.length ∧ (b = true ∨ ∃ k : Nat, j ≤ k ∧ k < put.length ∧ ∀ h : k < put.length, OkR put[k].p r) ∧ ∃ m', m.le m' ∧ Ctx [] (memOf w) w w' L' m' (putA q c put :: As), fun _ i _ => (put.length - i).toNat,
    ⟨0, rfl, by omega, hf'.imp id fun ⟨k, h1, h2⟩ => ⟨k, by omega, h1, h2⟩, m, Mem.le_refl _, C⟩, ?_⟩
  rintro b i w1 L1 _ ⟨j, rfl, hj, hd, m', hm, C⟩
  by_cases hlt : (decide ((j : Int) < (put.length : Int)) && !b) = true
  · rw [if_pos hlt]
    simp only [Bool.and_eq_true, decide_eq_true_eq, Bool.not_eq_true'] at hlt
    obtain ⟨hjl, rfl⟩ := hlt
    have hjl : j < put.length := by omega
    obtain ⟨k, hk1, hk2, hk3⟩ : ∃ k : Nat, j ≤ k ∧ k < put.length ∧ ∀ h : k < put.length, OkR put[k].p r := by
      rcases hd with h | h
      · cases h
      · exact h
    obtain ⟨a, rfl⟩ := slice_some C (rows_ne hjl)
    have fct : ∀ {w' : World} {L' : List Nat} {m' : Mem}, Ctx [] (memOf w) w w' L' m' (putA (some a) c put :: As) → ∀ (o : Nat) (vs : List Value), vs ≠ [] → (∀ t v, vs[t]? = some v → put[j].row[o + t]? = some v) → FactsW [((a.add (j * 6)).add o, vs)] w' L' := by
      intro w' L' m' C o vs hne hv
      have hc := C.slCells.1 a rfl
      have he := cells_part (cells_elem row_len hc.1 j hjl) o vs hv
      refine factsOne he ?_ (by rw [addr_block, addr_block]; exact hc.2 (rows_ne hjl))
      cases vs with
      | nil => exact absurd rfl hne
      | cons v vs =>
        have := World.block_lt_of_cell? w' _ (he 0 v rfl)
        rwa [addr_block] at this
    have v1 : ∀ (o : Nat) (x : Value), put[j].row[o]? = some x → ∀ t v, [x][t]? = some v → put[j].row[o + t]? = some v := fun o x hx t v ht => by
      cases t with
      | zero => rw [Nat.add_zero, hx]; exact ht
      | succ t => simp at ht
    have v2 : ∀ (o : Nat) (x y : Value), put[j].row[o]? = some x → put[j].row[o + 1]? = some y → ∀ t v, [x, y][t]? = some v → put[j].row[o + t]? = some v := fun o x y hx hy t v ht => by
      rcases t with _ | _ | t
      · rw [Nat.add_zero, hx]; exact ht
      · rw [hy]; exact ht
      · simp at ht
    refine ⟨_, fct C 4 [.slice put[j].q put[j].p.bs.length put[j].c] (by simp) (v1 4 _ rfl), by omega, by omega, ?_⟩
    rw [onSome_some]
    refine ⟨_, _, _, by rw [Int.toNat_natCast]; exact List.mem_cons_self, fun w255 L256 h255 g255 => ?_⟩
    replace C := C.hidL h255 g255
    have hmem := List.getElem_mem hjl
    have hbl := hl _ hmem
    refine (c_differs put[j].p.bs r.bs put[j].q qr put[j].c cr (by omega)).call (As := putA (some a) c put :: As) C ⟨(hb _ hmem).mono hm, hr.mono hm⟩ fun d m1 w258 hk hm1 hdp C => ⟨_, rfl, hk, ?_⟩
    refine ⟨_, factsMore (fct C 0 [.int .u8 put[j].p.fn, .int .u16 put[j].p.fl] (by simp) (v2 0 _ _ rfl rfl) _ _ List.mem_cons_self).1 (fct C 0 [.int .u8 put[j].p.fn, .int .u16 put[j].p.fl] (by simp) (v2 0 _ _ rfl rfl) _ _ List.mem_cons_self).2.1 (fct C 0 [.int .u8 put[j].p.fn, .int .u16 put[j].p.fl] (by simp) (v2 0 _ _ rfl rfl) _ _ List.mem_cons_self).2.2 (fct C 2 [.int .u8 put[j].p.tn, .int .u16 put[j].p.tl] (by simp) (v2 2 _ _ rfl rfl)), by omega, by omega, ?_⟩
    rw [onSome_some]
    have fct2 : ∀ {w' : World} {L' : List Nat} {m' : Mem}, Ctx [] (memOf w) w w' L' m' (putA (some a) c put :: As) → FactsW [((a.add (j * 6)).add 0, [.int .u8 put[j].p.fn, .int .u16 put[j].p.fl]), ((a.add (j * 6)).add 2, [.int .u8 put[j].p.tn, .int .u16 put[j].p.tl])] w' L' := fun C =>
      have h := fct C 0 [.int .u8 put[j].p.fn, .int .u16 put[j].p.fl] (by simp) (v2 0 _ _ rfl rfl) _ _ List.mem_cons_self
      factsMore h.1 h.2.1 h.2.2 (fct C 2 [.int .u8 put[j].p.tn, .int .u16 put[j].p.tl] (by simp) (v2 2 _ _ rfl rfl))
    refine ⟨put[j].p.fn, put[j].p.fl, by rw [Int.toNat_natCast]; exact List.mem_cons_self, fun w264 L265 h264 g264 => ?_⟩
    replace C := Ctx.hidL C h264 g264
    refine Ctx.gives C (c_RefProc _ _) fun w267 k267 C => ⟨_, _, rfl, k267, fct2 C, ?_⟩
    have e : IntKind.wrap .i64 ((j : Int) + 1) = ((j + 1 : Nat) : Int) := by rw [w_i64 (by omega) (by omega)]; omega
    have hms : ((put.length : Int) - ((j + 1 : Nat) : Int)).toNat + 1 ≤ ((put.length : Int) - (j : Int)).toNat := by omega
    have hm2 := hm.le_trans hm1
    by_cases hjk : j = k
    · -- the one that was put
      subst hjk
      obtain ⟨e1, e2, e3, e4, e5⟩ := hk3 hjl
      have hd2 : (((d == 0) && (!r.bad)) || ((decide (d ≥ 1) && decide (d ≤ 4)) && r.bad)) = true := by
        rcases e5 with ⟨f1, f2⟩ | ⟨f1, a', mask, f2, f3, f4, f5⟩
        · rw [f2] at hdp
          rw [diff_self hdp, f1]; rfl
        · rw [f5] at hdp
          have := diff_spoil f2 f3 f4 hdp
          rw [f1]; simp; omega
      rw [if_pos (by simp [e1, e2])]
      refine ⟨by omega, by omega, ?_⟩
      rw [onSome_some]
      refine ⟨put[j].p.tn, put[j].p.tl, by rw [Int.toNat_natCast]; exact List.mem_cons_of_mem _ List.mem_cons_self, ?_⟩
      refine Ctx.gives C (c_RefProc _ _) fun w274 k274 C => ⟨_, _, rfl, k274, fct2 C, rfl, rfl, ?_, ?_⟩
      · rw [e]
        exact ⟨j + 1, rfl, by omega, .inl (by rw [hd2]; simp [e3, e4]), m1, hm2, C⟩
      · rw [e]; exact hms
    · have hkk : ∀ bb : Bool, bb = true ∨ ∃ k : Nat, j + 1 ≤ k ∧ k < put.length ∧ ∀ h : k < put.length, OkR put[k].p r := fun bb => .inr ⟨k, by omega, hk2, hk3⟩
      by_cases hc : (((r.fn == put[j].p.fn) && (r.fl == put[j].p.fl)) == true) = true
      · rw [if_pos hc]
        refine ⟨by omega, by omega, ?_⟩
        rw [onSome_some]
        refine ⟨put[j].p.tn, put[j].p.tl, by rw [Int.toNat_natCast]; exact List.mem_cons_of_mem _ List.mem_cons_self, ?_⟩
        refine Ctx.gives C (c_RefProc _ _) fun w274 k274 C => ⟨_, _, rfl, k274, fct2 C, rfl, rfl, ?_, ?_⟩
        · rw [e]
          exact ⟨j + 1, rfl, by omega, hkk _, m1, hm2, C⟩
        · rw [e]; exact hms
      · rw [if_neg hc]
        refine ⟨rfl, rfl, ?_, ?_⟩
        · rw [e]
          exact ⟨j + 1, rfl, by omega, hkk _, m1, hm2, C⟩
        · rw [e]; exact hms
  · rw [if_neg hlt]
    have hb1 : b = true := by
      rcases hd with h | ⟨k, h1, h2, _⟩
      · exact h
      · cases b with
        | true => rfl
        | false => exact absurd (by simp; omega) hlt
    subst hb1
    rw [if_neg (by simp)]
    exact hK _ _ _ hm C
end Go.Proofs
