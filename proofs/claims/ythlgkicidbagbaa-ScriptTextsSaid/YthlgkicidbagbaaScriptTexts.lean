/- Any event has the document's line, and a process's events have theirs. For every event and every row of events. No condition. -/
import Derived.Test.YthlgkicidbagbaaRows
import Derived.Test.YthlgkicidbagbaaTexts
import Derived.OpenShut
import Derived.Deep.Slices
namespace Go.Proofs.Ythlgkicidbagbaa.scriptTexts
set_option maxRecDepth 100000
open Go Go.RowKit Go.ChangeMaps Go.Lib Go.Proofs.Ythlgkicidbagbaa Go.ChangeShapes Go.WideShapes Go.ChangeAt
set_option linter.unusedVariables false

theorem cells_length (x : Ev) : x.cells.length = 8 := rfl

/-- What a row's places say, told as a list. -/
theorem list_of {α : Type} (P : Nat → α → Prop) : ∀ n, (∀ i, i < n → ∃ x, P i x) → ∃ L : List α, L.length = n ∧ ∀ (i : Nat) x, L[i]? = some x → P i x
  | 0, _ => ⟨[], rfl, fun i x h => by simp at h⟩
  | n + 1, h => by
    obtain ⟨L, hL, hP⟩ := list_of P n fun i hi => h i (by omega)
    obtain ⟨x, hx⟩ := h n (by omega)
    refine ⟨L ++ [x], by simp [hL], fun i y hy => ?_⟩
    by_cases hi : i < L.length
    · rw [List.getElem?_append_left hi] at hy; exact hP i y hy
    · have hlt := (List.getElem?_eq_some_iff.1 hy).1
      have : i = n := by simp at hlt; omega
      subst this
      rw [← hL, List.getElem?_append_right (Nat.le_refl _)] at hy
      simp at hy; subst hy; exact hx


theorem wf_i64 {z : Int} (h : (Lit.int .i64 z).wf = true) : -9223372036854775808 ≤ z ∧ z ≤ 9223372036854775807 := by
  have hm : IntKind.i64.min = -9223372036854775808 := rfl
  have hM : IntKind.i64.max = 9223372036854775807 := rfl
  simp [Lit.wf] at h
  omega
theorem wf_u64 {z : Int} (h : (Lit.int .u64 z).wf = true) : 0 ≤ z ∧ z < 18446744073709551616 := by
  have hm : IntKind.u64.min = 0 := rfl
  have hM : IntKind.u64.max = 18446744073709551615 := rfl
  simp [Lit.wf] at h
  omega
theorem ev_of_trod {H : Type} {enc : TypeId × Value → H} {W : World} {k : Nat} {cs : List Value} {y : DataW H × List MemPlace} (hlen : cs.length = 8)
    (h2 : DataW.trod enc Try.prog W 0 (fun _ => true) true k 26 cs = some y) : ∃ x : Ev, x.Ok ∧ cs = x.cells := by
  obtain ⟨xs, k, _, _, _, hxl, hfield⟩ := DataW.trod_struct Try.underlying26 h2
  obtain ⟨c0, c1, c2, c3, c4, c5, c6, c7, rfl⟩ : ∃ c0 c1 c2 c3 c4 c5 c6 c7, cs = [c0, c1, c2, c3, c4, c5, c6, c7] := by
    match cs, hlen with
    | [c0, c1, c2, c3, c4, c5, c6, c7], _ => exact ⟨_, _, _, _, _, _, _, _, rfl⟩
  obtain ⟨x0, x1, x2, x3, x4, x5, rfl⟩ : ∃ x0 x1 x2 x3 x4 x5, xs = [x0, x1, x2, x3, x4, x5] := by
    match xs, hxl with
    | [x0, x1, x2, x3, x4, x5], _ => exact ⟨_, _, _, _, _, _, rfl⟩
  have f0 := hfield 0 _ rfl
  have f1 := hfield 1 _ rfl
  have f2 := hfield 2 _ rfl
  have f3 := hfield 3 _ rfl
  have f4 := hfield 4 _ rfl
  have f5 := hfield 5 _ rfl
  have g0 : DataW.trod enc Try.prog W 0 (fun _ => true) true k 3 [c0] = some x0 := f0
  have g1 : DataW.trod enc Try.prog W 0 (fun _ => true) true k 3 [c1] = some x1 := f1
  have g2 : DataW.trod enc Try.prog W 0 (fun _ => true) true k 22 [c2] = some x2 := f2
  have g3 : DataW.trod enc Try.prog W 0 (fun _ => true) true k 3 [c3] = some x3 := f3
  have g4 : DataW.trod enc Try.prog W 0 (fun _ => true) true k 3 [c4] = some x4 := f4
  have g5 : DataW.trod enc Try.prog W 0 (fun _ => true) true k 24 [c5, c6, c7] = some x5 := f5
  obtain ⟨z0, e0, _, w0⟩ := DataW.trod_int Try.underlying3 g0
  obtain ⟨z1, e1, _, w1⟩ := DataW.trod_int Try.underlying3 g1
  obtain ⟨z2, e2, _, w2⟩ := DataW.trod_int Try.underlying22 g2
  obtain ⟨z3, e3, _, w3⟩ := DataW.trod_int Try.underlying3 g3
  obtain ⟨z4, e4, _, w4⟩ := DataW.trod_int Try.underlying3 g4
  obtain ⟨ys, k', _, _, _, hyl, hf⟩ := DataW.trod_struct Try.underlying24 g5
  obtain ⟨y0, y1, y2, rfl⟩ : ∃ y0 y1 y2, ys = [y0, y1, y2] := by
    match ys, hyl with
    | [y0, y1, y2], _ => exact ⟨_, _, _, rfl⟩
  have h0 := hf 0 _ rfl
  have h1 := hf 1 _ rfl
  have h3 := hf 2 _ rfl
  have m0 : DataW.trod enc Try.prog W 0 (fun _ => true) true k' 4 [c5] = some y0 := h0
  have m1 : DataW.trod enc Try.prog W 0 (fun _ => true) true k' 22 [c6] = some y1 := h1
  have m2 : DataW.trod enc Try.prog W 0 (fun _ => true) true k' 22 [c7] = some y2 := h3
  obtain ⟨b5, e5, _⟩ := DataW.trod_bool Try.underlying4 m0
  obtain ⟨z6, e6, _, w6⟩ := DataW.trod_int Try.underlying22 m1
  obtain ⟨z7, e7, _, w7⟩ := DataW.trod_int Try.underlying22 m2
  simp at e0 e1 e2 e3 e4 e5 e6 e7
  subst e0; subst e1; subst e2; subst e3; subst e4; subst e5; subst e6; subst e7
  obtain ⟨n6, rfl⟩ := Int.eq_ofNat_of_zero_le (wf_u64 w6).1
  obtain ⟨n7, rfl⟩ := Int.eq_ofNat_of_zero_le (wf_u64 w7).1
  have q6 := (wf_u64 w6).2
  have q7 := (wf_u64 w7).2
  exact ⟨⟨z0, z1, z2, z3, z4, b5, n6, n7⟩, ⟨(wf_i64 w0).1, (wf_i64 w0).2, (wf_i64 w1).1, (wf_i64 w1).2, (wf_u64 w2).1, (wf_u64 w2).2, (wf_i64 w3).1, (wf_i64 w3).2, (wf_i64 w4).1, (wf_i64 w4).2, by simp only; omega, by simp only; omega⟩, rfl⟩

theorem evs_of_trod {H : Type} {enc : TypeId × Value → H} {W : World} {base : Nat} {v : Value} {y : DataW H} {ps : List MemPlace} (hok : Value.okWide Try.prog W .any base 27 v)
    (h : DataW.Trod enc Try.prog W 0 (fun _ => true) true 27 v y ps) : ∃ L, EvsAt W v L := by
  obtain ⟨a0, l0, c0, rfl⟩ := okWide_slice Try.underlying27 hok
  obtain ⟨fuel, hf⟩ := h
  rcases Deep.open_slice Try.underlying27 hf with ⟨hcs, _⟩ | ⟨a, len9, cap9, m, n, D, Pl, hcs, _, hl, hm, hmm, _, hx⟩
  · simp [Value.cells] at hcs
    obtain ⟨rfl, rfl, rfl⟩ := hcs
    exact ⟨[], none, 0, rfl, Nat.le_refl _, Nat.zero_le _, fun _ => rfl, fun h => by simp at h⟩
  · simp [Value.cells] at hcs
    obtain ⟨rfl, h8, h9⟩ := hcs
    subst h8 h9
    simp only [if_true] at hmm
    subst hmm
    have hc3 : Try.prog.cellsOf 26 = 8 := by kernel_rfl
    rw [hc3] at hx
    obtain ⟨b, o, spot⟩ := a
    rcases Nat.eq_zero_or_pos l0 with h0 | hp
    · subst h0
      exact ⟨[], _, _, rfl, hl, hm, (by intro h; cases h), fun h => by simp at h⟩
    have hs : spot = none := by
      obtain ⟨cs', h1, _⟩ := hx 0 (by omega)
      obtain ⟨_, hlen, hcell⟩ := World.cells?_some h1
      have := hcell 0 (by omega)
      rw [List.getElem?_eq_getElem (by omega)] at this
      simpa [Addr.add] using World.cell?_spot this
    subst hs
    obtain ⟨L, hL, hP⟩ := list_of (fun i (x : Ev) => x.Ok ∧ ∀ j u, x.cells[j]? = some u → W.cell? ⟨b, o + i * 8 + j, none⟩ = some u) l0 (fun i hi => by
      obtain ⟨cs', h1, h2⟩ := hx i (by omega)
      obtain ⟨_, hlen, hcell⟩ := World.cells?_some h1
      obtain ⟨x, hok, rfl⟩ := ev_of_trod hlen h2
      refine ⟨x, hok, fun j u hu => ?_⟩
      have hj := (List.getElem?_eq_some_iff.1 hu).1
      rw [cells_length] at hj
      have := hcell j (by omega)
      rw [WideShapes.add_plain, WideShapes.add_plain] at this
      rw [this, hu])
    exact ⟨L, _, _, by rw [hL], by rw [hL]; exact hl, hm, (by intro h; cases h), fun _ => ⟨b, o, rfl, hP⟩⟩

theorem oks_of {w : World} {v : Value} {L : List Ev} (h : EvsAt w v L) : ∀ x ∈ L, x.Ok := fun x hx => by
  obtain ⟨a, c, _, _, _, _, g⟩ := h
  obtain ⟨i, hi, rfl⟩ := List.mem_iff_getElem.1 hx
  obtain ⟨b, o, _, g⟩ := g (by omega)
  exact (g i _ (List.getElem?_eq_getElem hi)).1

theorem ev_of_arg {H : Type} {enc : TypeId × Value → H} {W : World} {base : Nat} {v : Value} {y : DataW H} {ps : List MemPlace} (hok : Value.okWide Try.prog W .any base 26 v)
    (h : DataW.Trod enc Try.prog W 0 (fun _ => true) true 26 v y ps) : ∃ x : Ev, x.Ok ∧ v = .agg (evArr x) := by
  obtain ⟨cs, rfl, hsz⟩ := okWide_struct Try.underlying26 hok
  obtain ⟨fuel, hf⟩ := h
  have h8 : Try.prog.cellsOf 26 = 8 := by kernel_rfl
  obtain ⟨x, hx, he⟩ := ev_of_trod (cs := cs.toList) (by rw [Array.length_toList, hsz, h8]) hf
  refine ⟨x, hx, ?_⟩
  congr 1
  apply Array.toList_inj.1
  rw [he]; rfl
theorem walk (W : World) (v : Value) (hv : ∃ x : Ev, x.Ok ∧ v = .agg (evArr x)) (vl : Value) (hl : ∃ L, EvsAt W vl L) : Calls Try.prog 3 #[v, vl] W (Yes W) := by
  obtain ⟨x, hx, rfl⟩ := hv
  obtain ⟨L, hl⟩ := hl
  by_cases h : L.length ≤ 50
  · exact texts_short x hx vl L W hl h
  · exact texts_long x hx vl L W hl (by omega)

theorem own : ownKnob Try.prog.godebug = none := by kernel_rfl
theorem laidOut : laidOutB Try.prog = true := by kernel_rfl
set_option maxRecDepth 100000 in
theorem lifted (os : Os) (started : os.Started) (H : Type) (enc : TypeId × Value → H) :
    ReturnsInHanded {} Try.checked os 3 .any (Rows.scriptTextsSpec.pre6 enc Try.prog Try.f3 Rows.scriptTextsRow.domain false) (Rows.scriptTextsSpec.post enc Try.prog Try.f3 false true false false) := by
  refine returnsInHanded_of_change (C := Try.checked) own started (by kernel_rfl) Try.func3
    (ChangeSpec.witness6 (enc := enc) (C := Try.checked) false ⟨#[], #[(.agg #[.int .i64 0, .int .i64 0, .int .u64 0, .int .i64 0, .int .i64 0, .bool false, .int .u64 0, .int .u64 0]), .slice none 0 0], []⟩ 8 (by kernel_rfl) (by kernel_rfl) (by kernel_rfl) (by kernel_rfl)) ?_
  intro W base args ds gs before hval0 hW hcnd _
  have hval : ∀ (j : Nat) t v, Try.f3.params[j]? = some t → args[j]? = some v → Value.okWide Try.prog W .any base t v := hval0
  have hW' := hW
  obtain ⟨p, q, hA0, hV, rfl, hfz, hnd⟩ := hW
  have hA : DataW.TrodAll enc Try.prog W 0 (fun _ => true) true Try.f3.params.toList args.toList ds p := hA0
  rw [Try.params3] at hA hval
  obtain ⟨v0, vs0, d0, ds0, p0, q0, hargs, rfl, rfl, h0, r0⟩ := trodAll_cons hA
  obtain ⟨v1, vs1, d1, ds1, p1, q1, rfl, rfl, rfl, h1, r1⟩ := trodAll_cons r0
  obtain ⟨rfl, rfl, rfl⟩ := trodAll_nil r1
  obtain rfl : args = #[v0, v1] := by cases args; simp_all
  obtain ⟨rfl, rfl⟩ := trodVars_none hV
  have k0 := h0
  have lt0 : ∀ x ∈ p0, x.block < W.heap.size := by obtain ⟨m, hm⟩ := k0; exact DataW.trod_lt m _ _ _ hm
  have okv0 := (hval 0 26 v0 rfl rfl)
  have k1 := h1
  have lt1 : ∀ x ∈ p1, x.block < W.heap.size := by obtain ⟨m, hm⟩ := k1; exact DataW.trod_lt m _ _ _ hm
  have okv1 := (hval 1 27 v1 rfl rfl)
  clear hA0 hval0
  refine (walk W v0 (ev_of_arg okv0 k0) v1 (evs_of_trod okv1 k1)).mono fun e W' ⟨he, bel⟩ => ?_
  subst he
  exact ⟨_, rfl, _, _, _, [], _, [], hW', trodAll_mk1 (shut_bool Try.underlying4 _), (trodAll_cons_mk (Below.trod laidOut (by kernel_rfl) (of_decide_eq_true (by kernel_rfl)) k0 bel lt0) (trodAll_cons_mk (Below.trod laidOut (by kernel_rfl) (of_decide_eq_true (by kernel_rfl)) k1 bel lt1) trodAll_mk0)), rfl, bel.frame _, fun h => by cases h⟩

theorem over : Rows.scriptTextsRow.holds Try.pinned (OpenSpec.ofChange Rows.scriptTextsSpec) :=
  OpenClaim.holds_of_wide 3 Try.f3 rfl rfl rfl rfl rfl rfl rfl ⟨rfl, rfl, rfl, rfl, rfl⟩ rfl rfl rfl rfl rfl (by kernel_rfl) Try.func3 (by kernel_rfl)
    (of_decide_eq_true (by kernel_rfl)) (by unfold Func.isWrapper; first | (rw [if_pos (by decide +kernel)]; kernel_rfl) | (rw [if_neg (by decide +kernel)]; exact ⟨rfl, rfl⟩))
    (fun os started H enc _ => lifted os started H enc)

theorem proved : Rows.ScriptTextsSaid := over

end Go.Proofs.Ythlgkicidbagbaa.scriptTexts
namespace Go.Proofs.Ythlgkicidbagbaa
theorem scriptTexts_holds : Rows.ScriptTextsSaid := scriptTexts.proved
end Go.Proofs.Ythlgkicidbagbaa
