import Derived.Test.YtmfmihkjkgifiaaU10y
import Derived.Test.YtmfmihkjkgifiaaU10i
import Derived.Test.YtmfmihkjkgifiaaXElems
import Derived.SizedLaws
/- PROVED: gemotlaw10.LinkNil: for every body and every packet, no link and one that nobody made refuse all that is asked of them: the law returns true; its inputs read as they did. Conditions: none. -/
set_option linter.unusedVariables false
set_option maxRecDepth 100000
namespace Go.Proofs.Ytmfmihkjkgifiaa
open Go X RowKit Go.ChangeShapes Go.WideShapes Go.ChangeAt Go.Proofs
section
variable {H : Type} {enc : TypeId × Value → H} {W : World} {sp : Nat → Bool} {fuel : Nat} {cs : List Value} {x : DataW H × List MemPlace}
theorem open_Pk (h : DataW.trod enc Try.prog W 0 sp true fuel 37 cs = some x) : ∃ p : Pk, cs = p.row ∧ MSrc (memOf W) 1 p.b.V p.b.bs.length (byV p.b.bs) := by
  have F := fit_of_trod 60 fuel 37 _ _ (by kernel_rfl) h
  have E : cellTys Try.prog 60 37 = [.int .u8, .int .u16, .int .u8, .int .u16, .int .u64, .int .u64, .bool, .slice] := by kernel_rfl
  rw [E] at F
  obtain ⟨_, l0, rfl, ⟨a0, rfl, w0⟩, F0⟩ := fit_cons F
  obtain ⟨_, l1, rfl, ⟨a1, rfl, w1⟩, F1⟩ := fit_cons F0
  obtain ⟨_, l2, rfl, ⟨a2, rfl, w2⟩, F2⟩ := fit_cons F1
  obtain ⟨_, l3, rfl, ⟨a3, rfl, w3⟩, F3⟩ := fit_cons F2
  obtain ⟨_, l4, rfl, ⟨a4, rfl, w4⟩, F4⟩ := fit_cons F3
  obtain ⟨_, l5, rfl, ⟨a5, rfl, w5⟩, F5⟩ := fit_cons F4
  obtain ⟨_, l6, rfl, ⟨a6, rfl⟩, F6⟩ := fit_cons F5
  obtain ⟨_, l7, rfl, ⟨q, l, c, rfl, _, _⟩, F7⟩ := fit_cons F6
  obtain rfl := fit_nil F7
  obtain ⟨g, y, hy⟩ := trod_field Try.underlying37 h 5 35 7 1 (by rfl) (by kernel_rfl)
  obtain ⟨q', c', bs, e, _, hm⟩ := trod_bytes Try.underlying35 Try.underlying5 (by kernel_rfl) hy
  have e' : [Value.slice q l c] = [Value.slice q' bs.length c'] := e
  injection e' with e' _
  injection e' with e1 e2 e3
  subst e1; subst e2; subst e3
  exact ⟨⟨a0, a1, a2, a3, a4, a5, a6, ⟨bs, q, c⟩⟩, rfl, hm⟩
/-- a slice's length is that of what is read -/
theorem read_len {t e : TypeId} (ht : Try.prog.underlying t = some (.slice e)) {q : Option Addr} {n c : Nat} (h : DataW.trod enc Try.prog W 0 sp true fuel t [.slice q n c] = some x) : n = 0 ∨ ∃ el rest, x.1 = .slice el rest ∧ el.length = n := by
  rcases DataW.trod_slice ht h with ⟨hc, _⟩ | ⟨a, len, cap, elems, rest, k, _, hc, rfl, _, _, _, hl, _⟩
  · injection hc with hc _; injection hc with _ h2 _; exact .inl h2
  · injection hc with hc _; injection hc with _ h2 _
    exact .inr ⟨_, _, rfl, by rw [List.length_map, hl, h2]⟩
theorem sized_sub {P : Program} {ts : List TypeId} {ds : List (DataW H)} (h : (DataW.weightsEach P ts ds).all (· ≤ reachBytes) = true) {j : Nat} {t : TypeId} {fs : Array Field} {parts : List (DataW H)} {i : Nat} {ty e : TypeId} {el rest : List (DataW H)}
    (ht : ts[j]? = some t) (hd : ds[j]? = some (.agg parts)) (hu : P.underlying t = some (.struct fs)) (hi : (fs.toList.map (·.type))[i]? = some ty) (hp : parts[i]? = some (.slice el rest)) (he : P.underlying ty = some (.slice e)) :
    (el.length + rest.length) * P.bytesOf e ≤ reachBytes := by
  have := List.all_eq_true.1 h _ (DataW.weights_mem_each ht hd ((el.length + rest.length) * P.bytesOf e) (by
    simp only [DataW.weights, hu]
    exact DataW.weights_mem_each hi hp _ (by simp [DataW.weights, he])))
  simpa using this
end
theorem b5 : Try.prog.bytesOf 5 = 1 := by kernel_rfl
theorem lifted6 (os : Os) (started : os.Started) (H : Type) (enc : TypeId × Value → H) :
    ReturnsInHanded {} Try.checked os 6 .any (Rows.linkNilSpec.pre6 enc Try.prog Try.f6 Rows.linkNilRow.domain false) (Rows.linkNilSpec.post enc Try.prog Try.f6 false true false false) := by
  refine returnsInHanded_of_change_sized (C := Try.checked) own started (by kernel_rfl) Try.func6
    (ChangeSpec.witness6 (enc := enc) (C := Try.checked) false ⟨#[], #[.slice none 0 0, .agg #[.int .u8 0, .int .u16 0, .int .u8 0, .int .u16 0, .int .u64 0, .int .u64 0, .bool false, .slice none 0 0]], []⟩ 8 (by kernel_rfl) (by kernel_rfl) (by kernel_rfl) (by kernel_rfl)) ?_
  intro W base args ds gs before hval0 hW hcnd hsz0 _
  have hval : ∀ (j : Nat) t v, Try.f6.params[j]? = some t → args[j]? = some v → Value.okWide Try.prog W .any base t v := hval0
  have hsz : (DataW.weightsEach Try.prog (Try.f6.params.toList ++ Rows.linkNilSpec.plain.varTypes Try.prog) (ds ++ gs)).all (· ≤ reachBytes) = true := hsz0
  have hW' := hW
  obtain ⟨p, q, hA0, hV, rfl, hfz, hnd⟩ := hW
  have hA : DataW.TrodAll enc Try.prog W 0 (fun _ => true) true Try.f6.params.toList args.toList ds p := hA0
  rw [Try.params6] at hA hval hsz
  obtain ⟨v0, vs0, d0, ds0, p0, q0, hargs, rfl, rfl, h0, r0⟩ := trodAll_cons hA
  obtain ⟨v1, vs1, d1, ds1, p1, q1, rfl, rfl, rfl, h1, r1⟩ := trodAll_cons r0
  obtain ⟨rfl, rfl, rfl⟩ := trodAll_nil r1
  obtain rfl : args = #[v0, v1] := by cases args; simp_all
  obtain ⟨rfl, rfl⟩ := trodVars_none hV
  obtain ⟨q', n', c', rfl⟩ := okWide_slice Try.underlying35 (hval 0 35 v0 rfl rfl)
  obtain ⟨cs, rfl, _⟩ := okWide_struct Try.underlying37 (hval 1 37 v1 rfl rfl)
  obtain ⟨n0, hn0⟩ := h0
  obtain ⟨n1, hn1⟩ := h1
  obtain ⟨qa, ca, bs, hcs, _, hm⟩ := trod_bytes Try.underlying35 Try.underlying5 (by kernel_rfl) hn0
  have hcs' : [Value.slice q' n' c'] = [.slice qa bs.length ca] := hcs
  injection hcs' with hcs' _
  rw [hcs'] at hW' hn0 ⊢
  obtain ⟨pk, hpk, hpm⟩ := open_Pk hn1
  have hb0 : bs.length ≤ reachBytes := by
    rcases read_len Try.underlying35 hn0 with h | ⟨el, rest, e1, e2⟩
    · omega
    · have := sized_slice hsz (j := 0) (t := 35) (e := 5) (elems := el) (spare := rest) rfl (by rw [← e1]; rfl) Try.underlying35
      rw [b5] at this; omega
  have hb1 : pk.b.bs.length ≤ reachBytes := by
    obtain ⟨xs, k, _, hx, _, hxl, hxi⟩ := DataW.trod_struct Try.underlying37 hn1
    have h5 := hxi 5 _ rfl
    have e7 : ((cs.toList.drop 7).take (Try.prog.cellsOf 35)) = [pk.b.V] := by
      have e1 : Try.prog.cellsOf 35 = 1 := by kernel_rfl
      rw [e1, show cs.toList = pk.row from hpk]; rfl
    have h5' : DataW.trod enc Try.prog W 0 (fun _ => true) true k 35 [pk.b.V] = xs[5]? := by rw [← e7]; exact h5
    cases hy : xs[5]? with
    | none =>
      rw [List.getElem?_eq_none_iff] at hy
      have : xs.length = 6 := hxl
      omega
    | some y =>
      rw [hy] at h5'
      rcases read_len Try.underlying35 h5' with h | ⟨el, rest, e1, e2⟩
      · omega
      · injection hx with hx1 _
        have := sized_sub hsz (j := 1) (t := 37) (i := 5) (ty := 35) (e := 5) (parts := xs.map (·.1)) (el := el) (rest := rest) rfl (by rw [← hx1]; rfl) Try.underlying37 rfl (by rw [List.getElem?_map, hy]; simp [e1]) Try.underlying35
        rw [b5] at this; omega
  have hlt := reachBytes_lt
  have hcs2 : cs = pk.row.toArray := Array.toList_inj.1 hpk
  subst hcs2
  refine (l_LinkNil W ⟨bs, qa, ca⟩ pk hm hpm (by show bs.length + _ < _; omega)).mono fun e W' ⟨he, hg⟩ => ?_
  subst he
  exact ⟨_, rfl, post_law (by kernel_rfl) rfl hW' rfl rfl rfl hg⟩
theorem linkNil_proved : Rows.LinkNilSaid :=
  OpenClaim.holds_of_wide 6 Try.f6 rfl rfl rfl rfl rfl rfl rfl ⟨rfl, rfl, rfl, rfl, rfl⟩ rfl rfl rfl rfl rfl (by kernel_rfl) Try.func6 (by kernel_rfl)
    (of_decide_eq_true (by kernel_rfl)) (by unfold Func.isWrapper; first | (rw [if_pos (by decide +kernel)]; kernel_rfl) | (rw [if_neg (by decide +kernel)]; exact ⟨rfl, rfl⟩))
    (fun os started H enc _ => lifted6 os started H enc)
#print axioms linkNil_proved
end Go.Proofs.Ytmfmihkjkgifiaa
