/- What two rows of events tell of a process: the law's walk. -/
import Derived.Test.YthlgkicidbagbaaOne
import Derived.Laws.AppendOwnNone
namespace Go.Proofs.Ythlgkicidbagbaa
set_option maxRecDepth 100000
open Go Go.RowKit Go.ChangeMaps Go.Lib
set_option linter.unusedVariables false

/-! ### Events, cell by cell -/
def evsCells (L : List Ev) : List Value := L.flatMap Ev.cells
theorem cells_length (x : Ev) : x.cells.length = 8 := rfl
theorem evsCells_length : ∀ L : List Ev, (evsCells L).length = L.length * 8
  | [] => rfl
  | x :: r => by
    have h : evsCells (x :: r) = x.cells ++ evsCells r := rfl
    rw [h, List.length_append, evsCells_length r, cells_length, List.length_cons]; omega
theorem evsCells_at : ∀ (L : List Ev) (i : Nat) (x : Ev) (j : Nat), L[i]? = some x → j < 8 → (evsCells L)[i * 8 + j]? = x.cells[j]?
  | [], i, x, j, h, _ => by simp at h
  | y :: r, 0, x, j, h, hj => by
    have e : evsCells (y :: r) = y.cells ++ evsCells r := rfl
    simp at h; subst h
    rw [e, Nat.zero_mul, Nat.zero_add, List.getElem?_append_left (by rw [cells_length]; exact hj)]
  | y :: r, i + 1, x, j, h, hj => by
    have e : evsCells (y :: r) = y.cells ++ evsCells r := rfl
    rw [e, List.getElem?_append_right (by rw [cells_length]; omega), cells_length, show (i + 1) * 8 + j - 8 = i * 8 + j by omega]
    exact evsCells_at r i x j (by simpa using h) hj
theorem evsCells_of (L : List Ev) (k : Nat) (u : Value) (h : (evsCells L)[k]? = some u) : ∃ x, L[k / 8]? = some x ∧ x.cells[k % 8]? = some u := by
  have hl := (List.getElem?_eq_some_iff.1 h).1
  rw [evsCells_length] at hl
  have hi : k / 8 < L.length := by omega
  refine ⟨L[k / 8], List.getElem?_eq_getElem hi, ?_⟩
  have := evsCells_at L (k / 8) L[k / 8] (k % 8) (List.getElem?_eq_getElem hi) (by omega)
  rw [show k / 8 * 8 + k % 8 = k by omega, h] at this
  exact this.symm
theorem evsCells_one (L : List Ev) : ∀ u ∈ evsCells L, u.oneCell' = true := by
  intro u hu
  obtain ⟨x, _, hx⟩ := List.mem_flatMap.1 hu
  simp only [Ev.cells, List.mem_cons, List.not_mem_nil, or_false] at hx
  rcases hx with rfl | rfl | rfl | rfl | rfl | rfl | rfl | rfl <;> rfl
theorem evsCells_append (l m : List Ev) : evsCells (l ++ m) = evsCells l ++ evsCells m := by simp [evsCells]

theorem evs_news {w : World} {a : Addr} {n cap : Nat} {L : List Ev} (h : EvsAt w (.slice (some a) n cap) L) : ∀ j u, (evsCells L)[j]? = some u → w.cell? (a.add j) = some u := fun j u hu => by
  obtain ⟨a', cap', e, _, _, _, h⟩ := h
  simp only [Value.slice.injEq] at e
  obtain ⟨rfl, rfl, rfl⟩ := e
  obtain ⟨x, hx, hc⟩ := evsCells_of L j u hu
  have hlt := (List.getElem?_eq_some_iff.1 hx).1
  obtain ⟨b, o, e, g⟩ := h (by omega)
  cases e
  have := (g _ x hx).2 _ u hc
  rw [WideShapes.add_plain, show o + j = o + j / 8 * 8 + j % 8 by omega]
  exact this

theorem evs_of_owns {w : World} {base g n cap : Nat} {L : List Ev} (h : w.ownsRow base 26 8 (.slice (some ⟨g, 0, none⟩) n cap) n (evsCells L)) (hok : ∀ x ∈ L, x.Ok) : EvsAt w (.slice (some ⟨g, 0, none⟩) n cap) L := by
  have hl : L.length = n := by have := h.1; rw [evsCells_length] at this; omega
  subst hl
  have h0 := h
  obtain ⟨_, h2⟩ := h0
  rcases h2 with ⟨h3, _⟩ | ⟨g', cap', cur, h3, h4, h5, h6, h7, h8, h9⟩
  · cases h3
  · simp only [Value.slice.injEq, Option.some.injEq, Addr.mk.injEq, and_true] at h3
    obtain ⟨rfl, _, rfl⟩ := h3
    refine ⟨_, _, rfl, h6, h7, (by intro h; cases h), fun _ => ⟨g, 0, rfl, fun i x hx => ⟨hok x (List.mem_of_getElem? hx), fun j u hu => ?_⟩⟩⟩
    have hlt := (List.getElem?_eq_some_iff.1 hx).1
    have hj := (List.getElem?_eq_some_iff.1 hu).1
    rw [cells_length] at hj
    rw [Nat.zero_add, h.cellAt (i * 8 + j) (by omega), evsCells_at L i x j hx hj]
    exact hu

theorem evInfo : (Try.prog.info? 26).map (fun i => (i.zero, i.size, i.bytes)) = some (some (.agg #[.int .i64 0, .int .i64 0, .int .u64 0, .int .i64 0, .int .i64 0, .bool false, .int .u64 0, .int .u64 0]), 8, 64) := by kernel_rfl

/-- Events appended to the call's own. -/
theorem wpList_append_evs {ops : Array Oper} {rest : List Oper} {o : Oper} {a : Act} {Q : Exit → Act → World → Prop} (w : World) (hgd : o.guard = none) (s x : Operand)
    (ho : o.op = .call { callee := .builtin .append, args := #[s, x], argTypes := #[27, 27] })
    (base : Nat) (v : Value) (n : Nat) (xs : List Value) (hs : a.eval s = v) (hown : w.ownsRow base 26 8 v n xs) (vx : Value) (L : List Ev) (hx : a.eval x = vx) (hev : EvsAt w vx L)
    (hn : n + L.length ≤ 1000000) (hbase : base ≤ w.heap.size)
    (h : ∀ v' w', w'.ownsRow base 26 8 v' (n + L.length) (xs ++ evsCells L) → w.grownBy w' v.ownBlock → (v' = .slice none 0 0 ↔ v = .slice none 0 0 ∧ L.length = 0) → wpList Try.prog ops Q rest (a.put o.dst v') w') : wpList Try.prog ops Q (o :: rest) a w := by
  obtain ⟨i0, hi, hz0, hz1, hz2⟩ := info_parts evInfo
  have hev' := hev
  obtain ⟨a', cap, rfl, h1, h2, h3, -⟩ := hev
  cases a' with
  | none =>
    have hc := h3 rfl
    have hl : L.length = 0 := by omega
    have hL := List.eq_nil_of_length_eq_zero hl
    subst hL
    subst hc
    refine wpList_append_own_none hgd s x _ ho base _ i0 8 Try.underlying27 hi v n xs hs hown hx (h v w ?_ ?_ ?_)
    · simpa [evsCells] using hown
    · exact ⟨rfl, rfl, rfl, Nat.le_refl _, fun _ _ _ => rfl⟩
    · simp
  | some ad =>
    exact wpList_append_own _ hgd s x _ ho base 26 i0 _ 8 64 Try.underlying27 hi hz0 hz1 hz2 rfl (by omega) v n xs hs hown ad L.length cap (evsCells L) hx (evsCells_length L) (evs_news hev') (evsCells_one L) (by unfold maxLen; omega) (by omega) hbase h
theorem own_form {w : World} {base e size n : Nat} {v : Value} {xs : List Value} (h : w.ownsRow base e size v n xs) (hn : v ≠ .slice none 0 0) : ∃ g cap, v = .slice (some ⟨g, 0, none⟩) n cap := by
  rcases h.2 with ⟨h3, _⟩ | ⟨g', cap', cur, h3, _⟩
  · exact (hn h3).elim
  · exact ⟨g', cap', h3⟩

/-! ### Plain law -/
def noneB (id : Int) (L : List Ev) : Bool := L.all fun e => e.pr != id
theorem text_ne (e : Ev) : e.text.data.toList ≠ [] := by
  unfold Ev.text textS
  intro h
  have := congrArg List.length h
  change ((⟨(Lib.join ((partsS e.pr e.ki e.pc e.op e.co e.t e.m e.a).map (·.data.toList)) [32]).toArray⟩ : ByteArray) ++ ⟨#[10]⟩).size = 0 at this
  rw [ByteArray.size_append] at this
  have k : (⟨#[10]⟩ : ByteArray).size = 1 := rfl
  omega
theorem trace_none (id : Int) : ∀ L : List Ev, traceL id L = [] ↔ noneB id L = true
  | [] => by simp [traceL, noneB]
  | e :: r => by
    have ih := trace_none id r
    have e1 : traceL id (e :: r) = (if e.pr = id then e.text.data.toList else []) ++ traceL id r := by simp [traceL]
    have e2 : noneB id (e :: r) = ((e.pr != id) && noneB id r) := rfl
    rw [e1, e2]
    by_cases h : e.pr = id
    · simp [h, text_ne e]
    · simp [h, ih]
theorem noneB_snoc {id : Int} {L : List Ev} {k : Nat} {x : Ev} (h : L[k]? = some x) : noneB id (L.take (k + 1)) = (noneB id (L.take k) && (x.pr != id)) := by
  rw [take_snoc h]; simp [noneB]

theorem trace_add (id : Int) (La Lb : List Ev) (h : La.length ≤ 40) (h' : Lb.length ≤ 40) : ∀ w, (Op.stringOp .add ⟨(traceL id La).toArray⟩ ⟨(traceL id Lb).toArray⟩).run Try.prog w = .ok (.string ⟨(traceL id (La ++ Lb)).toArray⟩) w := fun w => by
  have h1 := traceL_length id La
  have h2 := traceL_length id Lb
  rw [run_string_add_sum w _ _ (by show (traceL id La).toArray.size + (traceL id Lb).toArray.size ≤ _; rw [List.size_toArray, List.size_toArray]; omega)]
  congr 2
  rw [traceL_append]
  apply ByteArray.ext
  simp [ByteArray.data_append]
theorem trace_empty (id : Int) (L : List Ev) : noneB id L = (traceL id L).isEmpty := by
  rw [Bool.eq_iff_iff, ← trace_none id L, List.isEmpty_iff]

/-! ### The walk -/
theorem traces_long1 (a b : Option Addr) (n c m d : Nat) (id : Int) (w : World) (h : 40 < n) :
    Calls Try.prog 4 #[.slice a n c, .slice b m d, .int .i64 id] w (Yes w) := by
  have h2 : decide ((40 : Int) < (n : Int)) = true := by simp; omega
  go_enter Try.func4, Try.ntmps4
  go_wp2
  go_ret
  exact ⟨rfl, Below.refl _ _⟩
theorem traces_long2 (a b : Option Addr) (n c m d : Nat) (id : Int) (w : World) (h : n ≤ 40) (h' : 40 < m) :
    Calls Try.prog 4 #[.slice a n c, .slice b m d, .int .i64 id] w (Yes w) := by
  have h1 : decide ((40 : Int) < (n : Int)) = false := by simp; omega
  have h2 : decide ((40 : Int) < (m : Int)) = true := by simp; omega
  go_enter Try.func4, Try.ntmps4
  go_wp2
  go_ret
  exact ⟨rfl, Below.refl _ _⟩

/-- Behind the appends. -/
def AllIs (w : World) (L : List Ev) (v : Value) (W : World) : Prop := ∃ g cap, v = .slice (some ⟨g, 0, none⟩) L.length cap ∧ EvsAt W v L ∧ Below w.heap.size w W
set_option maxHeartbeats 4000000 in
theorem traces_short (va vb : Value) (La Lb : List Ev) (id : Int) (w : World) (ha : EvsAt w va La) (hb : EvsAt w vb Lb) (hok : ∀ x ∈ La ++ Lb, x.Ok) (h : La.length ≤ 40) (h' : Lb.length ≤ 40) :
    Calls Try.prog 4 #[va, vb, .int .i64 id] w (Yes w) := by
  have EA := Lib.hid ha
  have EB := Lib.hid hb
  obtain ⟨a, ca, rfl, ha1, ha2, ha3, -⟩ := ha
  obtain ⟨b, cb, rfl, hb1, hb2, hb3, -⟩ := hb
  have HA3 := Lib.hid ha3; have HB3 := Lib.hid hb3
  clear ha3 hb3
  unfold maxLen at ha2 hb2
  have d1 : decide ((40 : Int) < (La.length : Int)) = false := by simp; omega
  have d2 : decide ((40 : Int) < (Lb.length : Int)) = false := by simp; omega
  have HOK := Lib.hid hok
  clear hok
  go_enter Try.func4, Try.ntmps4
  go_wp2_with (first | (at_builtin; first | (refine wpList_append_evs _ (by rfl) _ _ (by rfl) w.heap.size (.slice (some ⟨w.heap.size, 0, none⟩) 0 0) 0 [] (by rfl) (ownsRow_empty w w.heap.size 26 8 w.heap.size rfl (Nat.le_refl _)) (.slice a La.length ca) La (by rfl) (EA.out.below (alloc_below' w _)) (by omega) (by simp) ?_; intro v1 w1 hown1 hgrow1 hv1; have HO1 := Lib.hid hown1; have HG1 := Lib.hid hgrow1; have HV1 := Lib.hid hv1; clear hown1 hgrow1 hv1; have BE1 := Lib.hid (grow_below (alloc_below' w _) HG1.out (ownsRow_empty w w.heap.size 26 8 w.heap.size rfl (Nat.le_refl _)))) | (refine wpList_append_evs _ (by rfl) _ _ (by rfl) w.heap.size v1 _ _ (by rfl) HO1.out (.slice b Lb.length cb) Lb (by rfl) (EB.out.below BE1.out) (by omega) BE1.out.size ?_; intro v2 w2 hown2 hgrow2 hv2; have HO2 := Lib.hid hown2; have HG2 := Lib.hid hgrow2; have HV2 := Lib.hid hv2; clear hown2 hgrow2 hv2; have BE2 := Lib.hid (grow_below BE1.out HG2.out HO1.out))) | fail)
  have hne : v2 ≠ .slice none 0 0 := fun e => by have := HV1.out.1 (HV2.out.1 e).1; cases this.1
  obtain ⟨g, cap, hv2⟩ := own_form HO2.out hne
  subst hv2
  have hLL : (La ++ Lb).length = 0 + La.length + Lb.length := by simp
  have EV : Hid (EvsAt w2 (.slice (some ⟨g, 0, none⟩) (0 + La.length + Lb.length) cap) (La ++ Lb)) := Lib.hid (evs_of_owns (by have := HO2.out; rw [List.nil_append, ← evsCells_append] at this; exact this) HOK.out)
  clear hne HO2 HG2 HV2 HO1 HG1 HV1 BE1
  have ETA := Lib.hid (EA.out.below BE2.out)
  have ETB := Lib.hid (EB.out.below BE2.out)
  clear EA EB
  have hL80 : (La ++ Lb).length ≤ 80 := by omega
  have PS := Lib.hid (trace_add id La Lb h h')
  have PE := Lib.hid (trace_empty id (La ++ Lb))
  rw [← hLL] at EV
  rw [← hLL]
  clear hLL
  generalize La ++ Lb = L at *
  have EV2 := Lib.hid EV.out
  obtain ⟨a3, c3, e3, hk1, hk2, -, hcells⟩ := EV.out
  simp only [Value.slice.injEq] at e3
  obtain ⟨rfl, -, rfl⟩ := e3
  have HC := Lib.hid hcells; clear hcells EV
  unfold maxLen at hk2
  go_loop [8, 9] (fun v8 v9 => ∃ k : Nat, k ≤ L.length ∧ v9 = .int .i64 k ∧ v8 = .bool (noneB id (L.take k))) (fun _ i => L.length - (RowKit.intOf i).toNat)
  case atStart => exact ⟨0, by omega, rfl, rfl⟩
  case round =>
    obtain ⟨k, hk, rfl, rfl⟩ := hrel
    by_cases hlt : k < L.length
    · obtain ⟨x, hx⟩ : ∃ x, L[k]? = some x := ⟨_, List.getElem?_eq_getElem hlt⟩
      obtain ⟨b', o', e', hcl⟩ := HC.out (by omega)
      cases e'
      obtain ⟨hok, hce⟩ := hcl k x hx
      have c0 : w2.cell? ⟨g, 0 + k * 8, none⟩ = some (.int .i64 x.pr) := hce 0 _ rfl
      rw [Nat.zero_add] at c0
      have HS := Lib.hid (noneB_snoc (id := id) hx)
      have i0 : (0 : Int) ≤ (k : Int) := by omega
      have i1 : (k : Int) < (L.length : Int) := by omega
      clear hcl hce hok hx
      cases hq : noneB id (L.take k)
      · rw [hq] at HS
        clear hq
        go_wp2
        go_round
        case rel => exact ⟨k + 1, by omega, by go_num, by rw [HS.out]; rfl⟩
        case measure => simp [RowKit.intOf]; omega
      · rw [hq] at HS
        clear hq
        go_wp2
        go_round
        case rel => exact ⟨k + 1, by omega, by go_num, by rw [HS.out]; simp⟩
        case measure => simp [RowKit.intOf]; omega
    · obtain rfl : k = L.length := by omega
      rw [List.take_length]
      go_wp2_with fail
      (with_reducible refine (trace_any L _ id _ (by omega) EV2.out).mono ?_)
      rintro e w3 ⟨rfl, hb3⟩
      have ETA3 := Lib.hid (ETA.out.below hb3)
      have ETB3 := Lib.hid (ETB.out.below hb3)
      have BE3 := Lib.hid (BE2.out.trans (hb3.mono BE2.out.size))
      clear hb3
      go_wp2_with fail
      (with_reducible refine (trace_any La _ id _ (by omega) ETA3.out).mono ?_)
      rintro e w4 ⟨rfl, hb4⟩
      have ETB4 := Lib.hid (ETB3.out.below hb4)
      have BE4 := Lib.hid (BE3.out.trans (hb4.mono BE3.out.size))
      clear hb4
      go_wp2_with fail
      (with_reducible refine (trace_any Lb _ id _ (by omega) ETB4.out).mono ?_)
      rintro e w5 ⟨rfl, hb5⟩
      have BE5 := Lib.hid (BE4.out.trans (hb5.mono BE4.out.size))
      clear hb5
      have ps := PS.out
      have pe := PE.out
      go_wp2_with fail
      (with_reducible refine (one_any _).mono ?_)
      rintro e w6 ⟨rfl, hb6⟩
      have BE6 := Lib.hid (BE5.out.trans (hb6.mono BE5.out.size))
      clear hb6 ps pe
      go_wp2
      go_ret
      exact ⟨rfl, BE6.out⟩

theorem traces_any (va vb : Value) (La Lb : List Ev) (id : Int) (w : World) (ha : EvsAt w va La) (hb : EvsAt w vb Lb) (hoka : ∀ x ∈ La, x.Ok) (hokb : ∀ x ∈ Lb, x.Ok) :
    Calls Try.prog 4 #[va, vb, .int .i64 id] w (Yes w) := by
  by_cases h1 : La.length ≤ 40
  · by_cases h2 : Lb.length ≤ 40
    · exact traces_short va vb La Lb id w ha hb (fun x hx => (List.mem_append.1 hx).elim (hoka x) (hokb x)) h1 h2
    · obtain ⟨a, ca, rfl, -⟩ := ha
      obtain ⟨b, cb, rfl, -⟩ := hb
      exact traces_long2 _ _ _ _ _ _ _ _ h1 (by omega)
  · obtain ⟨a, ca, rfl, -⟩ := ha
    obtain ⟨b, cb, rfl, -⟩ := hb
    exact traces_long1 _ _ _ _ _ _ _ _ (by omega)
end Go.Proofs.Ythlgkicidbagbaa
