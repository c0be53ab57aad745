import Derived.Test.YtjabbpcfinjofaaU23h
set_option linter.unusedVariables false
set_option linter.unusedSimpArgs false
set_option maxRecDepth 10000
namespace Go.Proofs
open Go X RowKit
structure Pr where (n l : Int)
@[reducible] def Pr.row (a : Pr) : List Value := [.int .u8 a.n, .int .u16 a.l]
theorem pr_len (a : Pr) : a.row.length = 2 := rfl
theorem pr_one (x : Pr) : ∀ u ∈ x.row, oneC u = true := by intro u h; simp [Pr.row] at h; rcases h with rfl | rfl <;> rfl
structure Vw where (g n : Int) (q : Sl) (ps : List Pr)
@[reducible] def Vw.row (a : Vw) : List Value := [.int .u8 a.g, .int .u32 a.n, slV a.q a.ps.length]
theorem vw_len (a : Vw) : a.row.length = 3 := rfl
theorem vw_one (x : Vw) : ∀ u ∈ x.row, oneC u = true := by intro u h; simp [Vw.row] at h; rcases h with rfl | rfl | rfl <;> rfl
structure Bg where (id : I) (gr mo at_ : Int) (pq : Sl) (ps : List Pt)
@[reducible] def Bg.row (a : Bg) : List Value := [.int .u8 a.id.n, .int .u16 a.id.l, .int .u32 a.id.s, .int .u8 a.id.d, .int .u8 a.id.g0, .int .u8 a.id.i0, .int .u8 a.id.g1, .int .u8 a.id.i1, .int .u8 a.id.g2, .int .u8 a.id.i2, .int .u8 a.gr, .int .i64 a.mo, .int .i64 a.at_, slV a.pq a.ps.length]
theorem bg_len (a : Bg) : a.row.length = 14 := rfl
theorem bg_one (x : Bg) : ∀ u ∈ x.row, oneC u = true := by intro u h; simp [Bg.row] at h; rcases h with rfl | rfl | rfl | rfl | rfl | rfl | rfl | rfl | rfl | rfl | rfl | rfl | rfl | rfl <;> rfl
structure Ed where (id : I) (gr mo bg at_ co rc : Int) (rv : ByteArray)
@[reducible] def Ed.row (a : Ed) : List Value := [.int .u8 a.id.n, .int .u16 a.id.l, .int .u32 a.id.s, .int .u8 a.id.d, .int .u8 a.id.g0, .int .u8 a.id.i0, .int .u8 a.id.g1, .int .u8 a.id.i1, .int .u8 a.id.g2, .int .u8 a.id.i2, .int .u8 a.gr, .int .i64 a.mo, .int .i64 a.bg, .int .i64 a.at_, .int .i64 a.co, .int .u8 a.rc, .string a.rv]
theorem ed_len (a : Ed) : a.row.length = 17 := rfl
theorem ed_one (x : Ed) : ∀ u ∈ x.row, oneC u = true := by intro u h; simp [Ed.row] at h; rcases h with rfl | rfl | rfl | rfl | rfl | rfl | rfl | rfl | rfl | rfl | rfl | rfl | rfl | rfl | rfl | rfl | rfl <;> rfl
structure Td where (f : Pr) (id : I) (rc : Int) (rv : ByteArray) (v : Vw)
@[reducible] def Td.row (a : Td) : List Value := [.int .u8 a.f.n, .int .u16 a.f.l, .int .u8 a.id.n, .int .u16 a.id.l, .int .u32 a.id.s, .int .u8 a.id.d, .int .u8 a.id.g0, .int .u8 a.id.i0, .int .u8 a.id.g1, .int .u8 a.id.i1, .int .u8 a.id.g2, .int .u8 a.id.i2, .int .u8 a.rc, .string a.rv, .int .u8 a.v.g, .int .u32 a.v.n, slV a.v.q a.v.ps.length]
theorem td_len (a : Td) : a.row.length = 17 := rfl
theorem td_one (x : Td) : ∀ u ∈ x.row, oneC u = true := by intro u h; simp [Td.row] at h; rcases h with rfl | rfl | rfl | rfl | rfl | rfl | rfl | rfl | rfl | rfl | rfl | rfl | rfl | rfl | rfl | rfl | rfl <;> rfl
structure St where (w : Pr) (v : Vw)
@[reducible] def St.row (a : St) : List Value := [.int .u8 a.w.n, .int .u16 a.w.l, .int .u8 a.v.g, .int .u32 a.v.n, slV a.v.q a.v.ps.length]
theorem st_len (a : St) : a.row.length = 5 := rfl
theorem st_one (x : St) : ∀ u ∈ x.row, oneC u = true := by intro u h; simp [St.row] at h; rcases h with rfl | rfl | rfl | rfl | rfl <;> rfl
structure Ac where (kd at_ g : Int) (b : Bg) (e : Ed) (t : Td) (s : St) (l : En)
@[reducible] def Ac.row (a : Ac) : List Value := [.int .i64 a.kd, .int .i64 a.at_, .int .u8 a.g, .int .u8 a.b.id.n, .int .u16 a.b.id.l, .int .u32 a.b.id.s, .int .u8 a.b.id.d, .int .u8 a.b.id.g0, .int .u8 a.b.id.i0, .int .u8 a.b.id.g1, .int .u8 a.b.id.i1, .int .u8 a.b.id.g2, .int .u8 a.b.id.i2, .int .u8 a.b.gr, .int .i64 a.b.mo, .int .i64 a.b.at_, slV a.b.pq a.b.ps.length, .int .u8 a.e.id.n, .int .u16 a.e.id.l, .int .u32 a.e.id.s, .int .u8 a.e.id.d, .int .u8 a.e.id.g0, .int .u8 a.e.id.i0, .int .u8 a.e.id.g1, .int .u8 a.e.id.i1, .int .u8 a.e.id.g2, .int .u8 a.e.id.i2, .int .u8 a.e.gr, .int .i64 a.e.mo, .int .i64 a.e.bg, .int .i64 a.e.at_, .int .i64 a.e.co, .int .u8 a.e.rc, .string a.e.rv, .int .u8 a.t.f.n, .int .u16 a.t.f.l, .int .u8 a.t.id.n, .int .u16 a.t.id.l, .int .u32 a.t.id.s, .int .u8 a.t.id.d, .int .u8 a.t.id.g0, .int .u8 a.t.id.i0, .int .u8 a.t.id.g1, .int .u8 a.t.id.i1, .int .u8 a.t.id.g2, .int .u8 a.t.id.i2, .int .u8 a.t.rc, .string a.t.rv, .int .u8 a.t.v.g, .int .u32 a.t.v.n, slV a.t.v.q a.t.v.ps.length, .int .u8 a.s.w.n, .int .u16 a.s.w.l, .int .u8 a.s.v.g, .int .u32 a.s.v.n, slV a.s.v.q a.s.v.ps.length, .int .u8 a.l.kd, .int .u8 a.l.id.n, .int .u16 a.l.id.l, .int .u32 a.l.id.s, .int .u8 a.l.id.d, .int .u8 a.l.id.g0, .int .u8 a.l.id.i0, .int .u8 a.l.id.g1, .int .u8 a.l.id.i1, .int .u8 a.l.id.g2, .int .u8 a.l.id.i2, .int .u32 a.l.fl, slV a.l.pq a.l.ps.length, .int .u8 a.l.rc, .string a.l.rv, slV a.l.wq a.l.ws.length, .int .u8 a.l.vn, .int .u16 a.l.vl]
theorem ac_len (a : Ac) : a.row.length = 74 := rfl
theorem ac_one (x : Ac) : ∀ u ∈ x.row, oneC u = true := by intro u h; simp [Ac.row] at h; rcases h with rfl | rfl | rfl | rfl | rfl | rfl | rfl | rfl | rfl | rfl | rfl | rfl | rfl | rfl | rfl | rfl | rfl | rfl | rfl | rfl | rfl | rfl | rfl | rfl | rfl | rfl | rfl | rfl | rfl | rfl | rfl | rfl | rfl | rfl | rfl | rfl | rfl | rfl | rfl | rfl | rfl | rfl | rfl | rfl | rfl | rfl | rfl | rfl | rfl | rfl | rfl | rfl | rfl | rfl | rfl | rfl | rfl | rfl | rfl | rfl | rfl | rfl | rfl | rfl | rfl | rfl | rfl | rfl | rfl | rfl | rfl | rfl | rfl | rfl <;> rfl
def Vw.M (m : Mem) (v : Vw) : Prop := MSrc m 2 (slV v.q v.ps.length) v.ps.length (v.ps.flatMap Pr.row)
structure AcM (m : Mem) (a : Ac) : Prop where
  b : MSrc m 5 (slV a.b.pq a.b.ps.length) a.b.ps.length (a.b.ps.flatMap Pt.row)
  t : a.t.v.M m
  s : a.s.v.M m
  l : EnM0 m a.l
theorem AcM.mono {m m' : Mem} {a : Ac} (h : AcM m a) (hm : m.le m') : AcM m' a := ⟨h.b.mono hm, MSrc.mono h.t hm, MSrc.mono h.s hm, h.l.mono hm⟩
structure Ac.lt (a : Ac) : Prop where
  t : a.t.v.ps.length ≤ 20
  s : a.s.v.ps.length ≤ 20
  p : a.l.ps.length < 200
  w : a.l.ws.length ≤ 300
theorem c_Light (q : Sl) (l : List Ac) : Ctr Try.prog 6 #[slV q l.length] (fun m => MSrc m 74 (slV q l.length) l.length (l.flatMap Ac.row) ∧ ∀ a ∈ l, AcM m a) [] (fun b : Bool => .bool b) (fun b _ => b = true → l.length ≤ 80 ∧ ∀ a ∈ l, a.lt) (fun _ => []) := by
  refine Ctr.mk fun w F m C hp => x_Light _ _ _ w _ ?_
  obtain ⟨hp, he⟩ := hp
  refine ⟨fun i w' _ => ∃ j : Nat, ∃ m' : Mem, i = j ∧ j ≤ 100 ∧ j ≤ l.length ∧ m.le m' ∧ (∀ a ∈ l.take j, a.lt) ∧ Ctx F m w w' [] m' [], fun i _ => (100 - i).toNat, ⟨0, m, rfl, by omega, by omega, Mem.le_refl _, by simp, C⟩, ?_⟩
  clear C
  rintro i w4 L5 _ ⟨j, m', rfl, hj, hjl0, hm', hok, D⟩
  by_cases hg : (decide ((j : Int) < ((l.length : Nat) : Int)) && decide ((j : Int) < 100)) = true
  rotate_left
  · rw [if_neg hg]
    refine Ctr.ret (decide (((l.length : Nat) : Int) ≤ 80)) rfl (fun hb => ?_) D
    simp only [Bool.and_eq_true, decide_eq_true_eq] at hb hg
    refine ⟨by omega, ?_⟩
    rwa [show j = l.length by omega, List.take_length] at hok
  rw [if_pos hg]
  simp only [Bool.and_eq_true, decide_eq_true_eq] at hg
  have hjl : j < l.length := by omega
  obtain ⟨a, ha, hc⟩ := (hp.mono hm').elem ac_len hjl
  refine ⟨by omega, by omega, ?_⟩
  rw [ha, onSome_some]
  have hem := (he _ (List.getElem_mem hjl)).mono hm'
  generalize he0 : l[j] = e at hc hem
  refine ⟨_, _, _, _, _, _, _, _, _, _, _, _, _, _, _, _, _, _, _, _, _, _, _, _, _, _, _, _, _, _, _, _, _, _, _, _, _, _, _, _, _, _, _, _, _, _, _, _, _, _, _, _, _, _, _, _, _, _, _, _, _, _, _, _, _, _, _, _, _, _, _, _, _, _, _, _, _, _, _, _, _, _, _, _, by rw [Int.toNat_natCast]; exact D.cells hc, fun w91 L92 h91 g91 => ?_⟩
  refine (c_Light3 e.b.pq e.b.ps).call (As := []) (D.hidL h91 g91) hem.b fun b3 m2 w94 hk hm2 _ D => ⟨_, rfl, hk, ?_⟩
  split
  rotate_left
  · exact Ctr.ret false rfl (by simp) D
  rename_i hgo
  simp only [beq_iff_eq, Bool.or_eq_false_iff, decide_eq_false_iff_not] at hgo
  obtain ⟨D1, hm3⟩ := D.newShare e.l.row 52 (0, 0)
  have hs : MSrc (m2.plus w94.heap.size e.l.row) 18 (slV (some ⟨w94.heap.size, 0, none⟩, 1) ([e.l] : List En).length) ([e.l] : List En).length (([e.l] : List En).flatMap En.row) :=
    MSrc.mk (by simp) (fun a ha => by injection ha with ha; subst ha; exact Mem.plus_cells _ _ _ _ _ fun j v h => by rw [Nat.zero_add]; simpa using h) (fun h => by cases h)
  have hk3 := alloc_keptL D (.cells e.l.row.toArray 52 (0, 0))
  refine (c_Light5 (some ⟨w94.heap.size, 0, none⟩, 1) [e.l]).call (As := []) D1 ⟨hs, fun x hx => by simp only [List.mem_singleton] at hx; subst hx; exact hem.l.mono (hm2.le_trans hm3)⟩ fun b5 m4 w97 hk4 hm4 h5 D => ⟨_, rfl, hk4, ?_⟩
  cases b5 with
  | false => rw [if_pos (by decide)]; exact Ctr.ret false rfl (by simp) D
  | true =>
    rw [if_neg (by decide), w_i64 (n := (j : Int) + 1) (by omega) (by omega)]
    refine ⟨⟨j + 1, m4, by omega, by omega, by omega, hm'.le_trans (hm2.le_trans (hm3.le_trans hm4)), fun x h => ?_, D.noL⟩, Nat.le_of_eq (by show (100 - ((j : Int) + 1)).toNat + 1 = (100 - (j : Int)).toNat; omega)⟩
    rw [List.take_succ_eq_append_getElem hjl, he0] at h
    rcases List.mem_append.1 h with h | h
    · exact hok x h
    · simp only [List.mem_singleton] at h; subst h
      have := (h5 rfl).2 x.l (by simp)
      exact ⟨by omega, by omega, this.1, this.2⟩
end Go.Proofs
