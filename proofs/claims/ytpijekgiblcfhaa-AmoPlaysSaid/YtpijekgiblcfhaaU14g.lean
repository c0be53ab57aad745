import Derived.Test.YtpijekgiblcfhaaU14f
set_option linter.unusedVariables false
set_option linter.unusedSimpArgs false
set_option maxRecDepth 10000
namespace Go.Proofs
open Go X RowKit
/-! ### the order of identifiers is that of numbers -/
def szI : List Int → Int
  | [] => 1
  | B :: r => B * szI r
def pkI : List Int → List Int → Int
  | _ :: Bs, d :: ds => d * szI Bs + pkI Bs ds
  | _, _ => 0
def InI : List Int → List Int → Prop
  | B :: Bs, d :: ds => (0 ≤ d ∧ d < B) ∧ InI Bs ds
  | [], [] => True
  | _, _ => False
theorem pk_in : ∀ {Bs ds : List Int}, InI Bs ds → 0 ≤ pkI Bs ds ∧ pkI Bs ds < szI Bs
  | [], [], _ => by simp [pkI, szI]
  | B :: Bs, d :: ds, h => by
    obtain ⟨⟨h0, h1⟩, h2⟩ := h
    obtain ⟨i0, i1⟩ := pk_in h2
    have hs : 0 < szI Bs := by omega
    simp only [pkI, szI]
    have a : 0 ≤ d * szI Bs := Int.mul_nonneg h0 (by omega)
    have b : (d + 1) * szI Bs ≤ B * szI Bs := Int.mul_le_mul_of_nonneg_right (by omega) (by omega)
    have c : (d + 1) * szI Bs = d * szI Bs + szI Bs := by rw [Int.add_mul, Int.one_mul]
    omega
  | [], _ :: _, h => by cases h
  | _ :: _, [], h => by cases h
theorem cmp2_lt {a b : Int} (h : a < b) : cmp2 a b = -1 := by unfold cmp2; rw [if_pos h]
theorem cmp2_gt {a b : Int} (h : b < a) : cmp2 a b = 1 := by unfold cmp2; rw [if_neg (by omega), if_pos (by omega)]
theorem pk_cmp : ∀ {Bs xs ys : List Int}, InI Bs xs → InI Bs ys → cmp2 (pkI Bs xs) (pkI Bs ys) = orL (List.zipWith cmp2 xs ys)
  | [], [], [], _, _ => by simp [pkI, orL, cmp2]
  | B :: Bs, x :: xs, y :: ys, hx, hy => by
    have ih := pk_cmp hx.2 hy.2
    obtain ⟨i0, i1⟩ := pk_in hx.2
    obtain ⟨j0, j1⟩ := pk_in hy.2
    simp only [pkI, List.zipWith, orL]
    have key : ∀ {u v : Int}, u < v → u * szI Bs + szI Bs ≤ v * szI Bs := fun {u v} h => by
      have b : (u + 1) * szI Bs ≤ v * szI Bs := Int.mul_le_mul_of_nonneg_right (by omega) (by omega)
      have c : (u + 1) * szI Bs = u * szI Bs + szI Bs := by rw [Int.add_mul, Int.one_mul]
      omega
    rcases Int.lt_trichotomy x y with h | h | h
    · have := key h
      rw [cmp2_lt h, if_pos (by decide), cmp2_lt (by omega)]
    · subst h
      rw [cmp2_self, if_neg (by decide), ← ih]
      unfold cmp2
      have e1 : (x * szI Bs + pkI Bs xs < x * szI Bs + pkI Bs ys) ↔ (pkI Bs xs < pkI Bs ys) := by omega
      have e2 : (x * szI Bs + pkI Bs xs > x * szI Bs + pkI Bs ys) ↔ (pkI Bs xs > pkI Bs ys) := by omega
      simp only [e1, e2]
    · have := key h
      rw [cmp2_gt h, if_pos (by decide), cmp2_gt (by omega)]
  | [], [], _ :: _, _, h => by cases h
  | [], _ :: _, _, h, _ => by cases h
  | _ :: _, [], _, h, _ => by cases h
  | _ :: _, _ :: _, [], _, h => by cases h
/-- a step that counts, as one number -/
def eI (j d g i : Int) : Int := if j < d then 1 + g * 256 + i else 0
def I.dig (x : I) : List Int := [x.n, x.l, x.s, eI 0 x.d x.g0 x.i0, eI 1 x.d x.g1 x.i1, eI 2 x.d x.g2 x.i2, x.d, x.g0, x.i0, x.g1, x.i1, x.g2, x.i2]
def basI : List Int := [256, 65536, 4294967296, 65537, 65537, 65537, 256, 256, 256, 256, 256, 256, 256]
def I.num (x : I) : Int := pkI basI x.dig
theorem I.In.dig {x : I} (h : x.In) : InI basI x.dig := by
  have := h.n; have := h.l; have := h.s; have := h.d; have := h.g0; have := h.i0; have := h.g1; have := h.i1; have := h.g2; have := h.i2
  simp only [InI, basI, I.dig, eI, and_true]
  refine ⟨by omega, by omega, by omega, ?_, ?_, ?_, by omega, by omega, by omega, by omega, by omega, by omega, by omega⟩
  all_goals split <;> omega
theorem cmpS_e (g i g' i' : Int) (h1 : 0 ≤ i ∧ i < 256) (h2 : 0 ≤ i' ∧ i' < 256) : cmp2 (1 + g * 256 + i) (1 + g' * 256 + i') = cmpS (g, i) (g', i') := by
  simp only [cmpS, orL]
  rcases Int.lt_trichotomy g g' with h | h | h
  · rw [cmp2_lt h, if_pos (by decide), cmp2_lt (by omega)]
  · subst h
    rw [cmp2_self, if_neg (by decide)]
    unfold cmp2
    split <;> split <;> first | omega | rfl | (split <;> first | omega | rfl | simp_all) | simp_all
  · rw [cmp2_gt h, if_pos (by decide), cmp2_gt (by omega)]
def o2 (a b : Int) : Int := if a ≠ 0 then a else b
theorem o2_assoc (a b c : Int) : o2 (o2 a b) c = o2 a (o2 b c) := by
  unfold o2
  by_cases h : a = 0
  · subst h; simp
  · simp [h]
theorem o2_zero (a : Int) : o2 a 0 = a := by unfold o2; by_cases h : a = 0 <;> simp [h]
theorem zero_o2 (a : Int) : o2 0 a = a := by simp [o2]
theorem orL_cons (x : Int) (r : List Int) : orL (x :: r) = o2 x (orL r) := rfl
theorem orL_nil : orL [] = 0 := rfl
theorem o2_neg (r : Int) : o2 (-1) r = -1 := rfl
theorem o2_one (r : Int) : o2 1 r = 1 := rfl
theorem step_e {j d d' g i g' i' F A rest : Int} (h1 : 0 ≤ i ∧ i < 256) (h2 : 0 ≤ i' ∧ i' < 256) (hg : 0 ≤ g ∧ 0 ≤ g') (hF : ¬ (j < d ∨ j < d') → F = 0) (hr : o2 F (o2 (cmp2 d d') A) = rest) :
    o2 (if j < d ∧ j < d' then (if cmpS (g, i) (g', i') ≠ 0 then cmpS (g, i) (g', i') else F) else 0) (o2 (cmp2 d d') A) = o2 (cmp2 (eI j d g i) (eI j d' g' i')) rest := by
  by_cases hd : j < d
  · by_cases hd' : j < d'
    · rw [if_pos ⟨hd, hd'⟩, eI, eI, if_pos hd, if_pos hd', cmpS_e g i g' i' h1 h2, ← hr]
      exact o2_assoc _ _ _
    · rw [if_neg (by omega), eI, eI, if_pos hd, if_neg hd', cmp2_gt (by omega : (0 : Int) < 1 + g * 256 + i), cmp2_gt (by omega : d' < d), zero_o2, o2_one, o2_one]
  · by_cases hd' : j < d'
    · rw [if_neg (by omega), eI, eI, if_neg hd, if_pos hd', cmp2_lt (by omega : (0 : Int) < 1 + g' * 256 + i'), cmp2_lt (by omega : d < d'), zero_o2, o2_neg, o2_neg]
    · rw [if_neg (by omega), eI, eI, if_neg hd, if_neg hd', cmp2_self, zero_o2, zero_o2, ← hr, hF (by omega), zero_o2]
theorem cmp_dig (x y : I) (hx : x.In) (hy : y.In) : x.cmp y = orL (List.zipWith cmp2 x.dig y.dig) := by
  unfold I.cmp
  rw [cmp_steps x y hx hy]
  simp only [I.steps, List.zipWith, I.dig, orL_cons, orL_nil, o2_zero, o2_assoc]
  congr 3
  have e : ∀ g i g' i' : Int, cmpS (g, i) (g', i') = o2 (cmp2 g g') (cmp2 i i') := fun g i g' i' => by simp only [cmpS, orL_cons, orL_nil, o2_zero]
  have eA : ∀ r, o2 (cmpS (x.g0, x.i0) (y.g0, y.i0)) r = o2 (cmp2 x.g0 y.g0) (o2 (cmp2 x.i0 y.i0) r) := fun r => by rw [e, o2_assoc]
  have eB : ∀ r, o2 (cmpS (x.g1, x.i1) (y.g1, y.i1)) r = o2 (cmp2 x.g1 y.g1) (o2 (cmp2 x.i1 y.i1) r) := fun r => by rw [e, o2_assoc]
  rw [eA, eB, e x.g2]
  generalize o2 (cmp2 x.g0 y.g0) (o2 (cmp2 x.i0 y.i0) (o2 (cmp2 x.g1 y.g1) (o2 (cmp2 x.i1 y.i1) (o2 (cmp2 x.g2 y.g2) (cmp2 x.i2 y.i2))))) = A
  refine step_e hx.i0 hy.i0 ⟨hx.g0.1, hy.g0.1⟩ (fun h => if_neg (by omega)) ?_
  refine step_e hx.i1 hy.i1 ⟨hx.g1.1, hy.g1.1⟩ (fun h => if_neg (by omega)) ?_
  have e2 : (if 2 < x.d ∧ 2 < y.d then cmpS (x.g2, x.i2) (y.g2, y.i2) else 0) = (if 2 < x.d ∧ 2 < y.d then (if cmpS (x.g2, x.i2) (y.g2, y.i2) ≠ 0 then cmpS (x.g2, x.i2) (y.g2, y.i2) else 0) else 0) := by
    split
    · by_cases h : cmpS (x.g2, x.i2) (y.g2, y.i2) = 0 <;> simp [h]
    · rfl
  rw [← e x.g2 x.i2 y.g2 y.i2, e2]
  refine step_e hx.i2 hy.i2 ⟨hx.g2.1, hy.g2.1⟩ (fun h => rfl) ?_
  rw [zero_o2]
theorem cmp_num (x y : I) (hx : x.In) (hy : y.In) : x.cmp y = cmp2 x.num y.num := by
  rw [cmp_dig x y hx hy, I.num, I.num, pk_cmp hx.dig hy.dig]
theorem pk_inj : ∀ {Bs xs ys : List Int}, InI Bs xs → InI Bs ys → pkI Bs xs = pkI Bs ys → xs = ys
  | [], [], [], _, _, _ => rfl
  | B :: Bs, x :: xs, y :: ys, hx, hy, h => by
    have hc := pk_cmp hx hy
    rw [h, cmp2_self] at hc
    simp only [List.zipWith, orL] at hc
    by_cases hxy : x = y
    · subst hxy
      rw [pk_inj hx.2 hy.2 (by simp only [pkI] at h; omega)]
    · have : cmp2 x y ≠ 0 := fun e => hxy ((cmp2_zero _ _).1 e)
      rw [if_pos this] at hc
      exact absurd hc.symm this
  | [], [], _ :: _, _, h, _ => by cases h
  | [], _ :: _, _, h, _, _ => by cases h
  | _ :: _, [], _, h, _, _ => by cases h
  | _ :: _, _ :: _, [], _, h, _ => by cases h
theorem num_inj {x y : I} (hx : x.In) (hy : y.In) (h : x.num = y.num) : x = y := by
  have := pk_inj hx.dig hy.dig h
  simp only [I.dig, List.cons.injEq] at this
  obtain ⟨h1, h2, h3, _, _, _, h4, h5, h6, h7, h8, h9, h10, _⟩ := this
  exact I.ext' ⟨h1, h2, h3, h4, h5, h6, h7, h8, h9, h10⟩
end Go.Proofs
