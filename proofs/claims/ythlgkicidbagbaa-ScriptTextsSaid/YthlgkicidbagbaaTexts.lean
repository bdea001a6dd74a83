/- Any event has the document's line, and a process's events have theirs: the law's walk. -/
import Derived.Test.YthlgkicidbagbaaOne
import Derived.Test.YthlgkicidbagbaaDocText
import Derived.BigQuiet
namespace Go.Proofs.Ythlgkicidbagbaa
set_option maxRecDepth 100000
open Go Go.RowKit Go.ChangeMaps Go.Lib
set_option linter.unusedVariables false

theorem own_any (x : Ev) (h : x.Ok) (w : World) :
    Calls Try.prog 5 #[.agg #[.int .i64 x.pr, .int .i64 x.ki, .int .u64 x.pc, .int .i64 x.op, .int .i64 x.co, .bool x.t, .int .u64 x.m, .int .u64 x.a]] w (fun e w' => e = .returned (.string x.text) ∧ Below w.heap.size w w') := by
  have H := fun w => doc_text x.pr x.ki x.pc x.op x.co x.t x.m x.a w h.pr1 h.pr2 h.pc1 h.pc2 h.co1 h.co2 h.op1 h.op2 h.m1 h.a1
  clear h
  go_enter Try.func5, Try.ntmps5
  go_wp2_with fail
  refine (H _).mono ?_
  rintro e w1 ⟨rfl, hb1⟩
  have HB1 := Lib.hid hb1
  clear hb1 H
  go_wp2
  go_ret
  exact ⟨rfl, ((Below.refl _ _).alloc (Nat.le_refl _) _).trans (HB1.out.mono (by simp))⟩
theorem enter_own (args : Array Value) (W : World) : (callFunc 5 args).run Try.prog W = .ok (.enter 5 args) W := by kernel_rfl

def evArr (x : Ev) : Array Value := #[.int .i64 x.pr, .int .i64 x.ki, .int .u64 x.pc, .int .i64 x.op, .int .i64 x.co, .bool x.t, .int .u64 x.m, .int .u64 x.a]
/-- The event's block, and what was there. -/
structure TxMid (w : World) (x : Ev) (W : World) : Prop where
  ev : W.heap[w.heap.size]? = some (.cells (evArr x) 26 (0, 0))
  bel : Below w.heap.size w W
theorem TxMid.next {w W W' : World} {x : Ev} (h : TxMid w x W) (hb : Below W.heap.size W W') : TxMid w x W' :=
  ⟨(hb.block _ (blk_lt h.ev)).trans h.ev, h.bel.trans (hb.mono h.bel.size)⟩
theorem TxMid.drewN {w W : World} {x : Ev} (h : TxMid w x W) (n : Nat) : TxMid w x (W.drewN n) := ⟨h.ev, Below_drewN h.bel n⟩
theorem tx_init (w : World) (x : Ev) : TxMid w x (w.alloc (.cells (evArr x) 26)) := ⟨blk_alloc_new w _, alloc_below' w _⟩
theorem want_add (id : Int) (L : List Ev) (k : Nat) (x : Ev) (hx : L[k]? = some x) (hL : L.length ≤ 50) (hk : k ≤ 50) (hq : x.pr = id) : ∀ w, (Op.stringOp .add ⟨(traceL id (L.take k)).toArray⟩ x.text).run Try.prog w = .ok (.string ⟨(traceL id (L.take (k + 1))).toArray⟩) w := fun w => by
  have h1 := traceL_length id (L.take k)
  have h3 : (L.take k).length ≤ 50 := by rw [List.length_take]; omega
  have h2 := x.text_size
  rw [run_string_add_sum w _ _ (by show (traceL id (L.take k)).toArray.size + _ ≤ _; rw [List.size_toArray]; omega)]
  congr 2
  rw [take_snoc hx, traceL_append, show traceL id [x] = x.text.data.toList by simp [traceL, hq]]
  apply ByteArray.ext
  simp [ByteArray.data_append]

theorem keepC8 {W W' : World} {p0 p1 p2 p3 p4 p5 p6 p7 : Addr} {x0 x1 x2 x3 x4 x5 x6 x7 : Value} (hb : Below W.heap.size W W') (h : W.cell? p0 = some x0 ∧ W.cell? p1 = some x1 ∧ W.cell? p2 = some x2 ∧ W.cell? p3 = some x3 ∧ W.cell? p4 = some x4 ∧ W.cell? p5 = some x5 ∧ W.cell? p6 = some x6 ∧ W.cell? p7 = some x7) : W'.cell? p0 = some x0 ∧ W'.cell? p1 = some x1 ∧ W'.cell? p2 = some x2 ∧ W'.cell? p3 = some x3 ∧ W'.cell? p4 = some x4 ∧ W'.cell? p5 = some x5 ∧ W'.cell? p6 = some x6 ∧ W'.cell? p7 = some x7 :=
  ⟨(hb.cell (cell_lt h.1)).trans h.1, (hb.cell (cell_lt h.2.1)).trans h.2.1, (hb.cell (cell_lt h.2.2.1)).trans h.2.2.1, (hb.cell (cell_lt h.2.2.2.1)).trans h.2.2.2.1, (hb.cell (cell_lt h.2.2.2.2.1)).trans h.2.2.2.2.1, (hb.cell (cell_lt h.2.2.2.2.2.1)).trans h.2.2.2.2.2.1, (hb.cell (cell_lt h.2.2.2.2.2.2.1)).trans h.2.2.2.2.2.2.1, (hb.cell (cell_lt h.2.2.2.2.2.2.2)).trans h.2.2.2.2.2.2.2⟩

set_option maxHeartbeats 8000000 in
theorem texts_short (x : Ev) (hx : x.Ok) (v : Value) (L : List Ev) (w : World) (hl : EvsAt w v L) (h50 : L.length ≤ 50) :
    Calls Try.prog 3 #[.agg #[.int .i64 x.pr, .int .i64 x.ki, .int .u64 x.pc, .int .i64 x.op, .int .i64 x.co, .bool x.t, .int .u64 x.m, .int .u64 x.a], v] w (Yes w) := by
  have EV := Lib.hid hl
  obtain ⟨a, c, rfl, hc1, hc2, -, hcells⟩ := hl
  have HC := Lib.hid hcells; clear hcells
  have HX := Lib.hid hx; clear hx
  unfold maxLen at hc2
  have d1 : decide ((50 : Int) < (L.length : Int)) = false := by simp; omega
  go_enter Try.func3, Try.ntmps3
  go_wp2_with fail
  go_loopw [6, 7] (fun v6 v7 W => ∃ k : Nat, k ≤ L.length ∧ v7 = .int .i64 k ∧ v6 = .string ⟨(traceL x.pr (L.take k)).toArray⟩ ∧ TxMid w x W) (fun _ i _ => L.length - (RowKit.intOf i).toNat)
  case atStart => exact ⟨0, by omega, rfl, rfl, tx_init w x⟩
  case round =>
    obtain ⟨k, hk, rfl, rfl, hmid⟩ := hrel
    have MID := Lib.hid hmid
    clear hmid
    generalize wr = W at *
    by_cases hlt : k < L.length
    · obtain ⟨b, o, rfl, hcl⟩ := HC.out (by omega)
      obtain ⟨y, hy⟩ : ∃ y, L[k]? = some y := ⟨_, List.getElem?_eq_getElem hlt⟩
      obtain ⟨hok, hce⟩ := hcl k y hy
      have hbw : b < w.heap.size := cell_lt (hce 0 _ rfl)
      have e : ∀ j u, y.cells[j]? = some u → W.cell? ⟨b, o + k * 8 + j, none⟩ = some u := fun j u hu => (World.cell?_of_block (w := w) (MID.out.bel.block b hbw)).trans (hce j u hu)
      have c0 := e 0 _ rfl
      have c1 := e 1 _ rfl
      have c2 := e 2 _ rfl
      have c3 := e 3 _ rfl
      have c4 := e 4 _ rfl
      have c5 := e 5 _ rfl
      have c6 := e 6 _ rfl
      have c7 := e 7 _ rfl
      rw [Nat.add_zero] at c0
      have d0 : W.cell? ⟨w.heap.size, 0, none⟩ = some (.int .i64 x.pr) := cell_of_blk MID.out.ev 0
      have HY := Lib.hid hy
      have HOK := Lib.hid hok
      clear hcl hce e hok hy
      have i0 : (0 : Int) ≤ (k : Int) := by omega
      have i1 : (k : Int) < (L.length : Int) := by omega
      by_cases hq : y.pr = x.pr
      · have hq' : (y.pr == x.pr) = true := beq_iff_eq.2 hq
        have HQ := Lib.hid hq
        clear hq
        have ec := fun W args => enter_own args W
        have wa := want_add x.pr L k y HY.out h50 (by omega) HQ.out
        go_wp2_with fail
        go_quiet (fail)
        go_wp2_with fail
        (with_reducible refine (own_any y HOK.out _).mono ?_)
        rintro e w2 ⟨rfl, hb2⟩
        have M2 := Lib.hid ((MID.out.drewN _).next hb2)
        clear hb2
        go_wp2
        go_roundw
        case rel => exact ⟨k + 1, by omega, by go_num, rfl, M2.out⟩
        case measure => simp [RowKit.intOf]; omega
      · have hq' : (y.pr == x.pr) = false := beq_eq_false_iff_ne.2 hq
        have HQ := Lib.hid hq
        clear hq
        go_wp2_with fail
        go_quiet (fail)
        go_wp2
        go_roundw
        case rel =>
          refine ⟨k + 1, by omega, by go_num, ?_, MID.out.drewN _⟩
          rw [take_snoc HY.out, traceL_append, show traceL x.pr [y] = [] by simp [traceL, HQ.out], List.append_nil]
        case measure => simp [RowKit.intOf]; omega
    · obtain rfl : k = L.length := by omega
      rw [List.take_length]
      go_wp2_with fail
      have ec := fun W args => enter_own args W
      have d0 : W.cell? ⟨w.heap.size, 0, none⟩ = some (.int .i64 x.pr) := cell_of_blk MID.out.ev 0
      have d1 : W.cell? ⟨w.heap.size, 1, none⟩ = some (.int .i64 x.ki) := cell_of_blk MID.out.ev 1
      have d2 : W.cell? ⟨w.heap.size, 2, none⟩ = some (.int .u64 x.pc) := cell_of_blk MID.out.ev 2
      have d3 : W.cell? ⟨w.heap.size, 3, none⟩ = some (.int .i64 x.op) := cell_of_blk MID.out.ev 3
      have d4 : W.cell? ⟨w.heap.size, 4, none⟩ = some (.int .i64 x.co) := cell_of_blk MID.out.ev 4
      have d5 : W.cell? ⟨w.heap.size, 5, none⟩ = some (.bool x.t) := cell_of_blk MID.out.ev 5
      have d6 : W.cell? ⟨w.heap.size, 6, none⟩ = some (.int .u64 x.m) := cell_of_blk MID.out.ev 6
      have d7 : W.cell? ⟨w.heap.size, 7, none⟩ = some (.int .u64 x.a) := cell_of_blk MID.out.ev 7
      have MD : Hid (TxMid w x W.drew) := Lib.hid ⟨MID.out.ev, MID.out.bel.drew⟩
      first | go_region_held3 (fun w' => w'.cell? ⟨w.heap.size, 0, none⟩ = some (.int .i64 x.pr) ∧ w'.cell? ⟨w.heap.size, 1, none⟩ = some (.int .i64 x.ki) ∧ w'.cell? ⟨w.heap.size, 2, none⟩ = some (.int .u64 x.pc) ∧ w'.cell? ⟨w.heap.size, 3, none⟩ = some (.int .i64 x.op) ∧ w'.cell? ⟨w.heap.size, 4, none⟩ = some (.int .i64 x.co) ∧ w'.cell? ⟨w.heap.size, 5, none⟩ = some (.bool x.t) ∧ w'.cell? ⟨w.heap.size, 6, none⟩ = some (.int .u64 x.m) ∧ w'.cell? ⟨w.heap.size, 7, none⟩ = some (.int .u64 x.a)) (first | (with_reducible exact keepC8 ‹Below _ _ _› (by assumption)) | go_keep) (first | ((go_at_call 7; (with_reducible refine (event_call x HX.out _).mono ?_); rintro e wa ⟨rfl, hba⟩; have HA := Lib.hid hba)) | ((go_at_call 5; (with_reducible refine (own_any x HX.out _).mono ?_); rintro e wb ⟨rfl, hbb⟩; have HB := Lib.hid hbb)) | ((go_at_call 8; (with_reducible refine (trace_any L _ x.pr _ (by omega) (EV.out.below ((MD.out.next HA.out).next HB.out).bel)).mono ?_); rintro e wc ⟨rfl, hbc⟩; have HCC := Lib.hid hbc)) | ((go_at_call 9; (with_reducible refine (one_any _).mono ?_); rintro e wd ⟨rfl, hbd⟩; have HD := Lib.hid hbd))) | fail
      have M5 := Lib.hid ((((MD.out.next HA.out).next HB.out).next HCC.out).next HD.out)
      go_wp2
      go_ret
      exact ⟨rfl, M5.out.bel⟩

set_option maxHeartbeats 1000000 in
theorem texts_long (x : Ev) (hx : x.Ok) (v : Value) (L : List Ev) (w : World) (hl : EvsAt w v L) (h50 : 50 < L.length) :
    Calls Try.prog 3 #[.agg #[.int .i64 x.pr, .int .i64 x.ki, .int .u64 x.pc, .int .i64 x.op, .int .i64 x.co, .bool x.t, .int .u64 x.m, .int .u64 x.a], v] w (Yes w) := by
  obtain ⟨L', hL', hL50, EV0⟩ : ∃ L', L' = L.take 50 ∧ L'.length = 50 ∧ ∀ a c, v = .slice a L.length c → EvsAt w (.slice a 50 c) L' := ⟨L.take 50, rfl, by rw [List.length_take]; omega, fun a c hv => by
    obtain ⟨a', c', e, h1, h2, h3, h4⟩ := hl
    rw [hv] at e
    simp only [Value.slice.injEq, true_and] at e
    obtain ⟨rfl, rfl⟩ := e
    refine ⟨a, c, by rw [List.length_take, Nat.min_eq_left (by omega)], by rw [List.length_take]; omega, h2, h3, fun _ => ?_⟩
    obtain ⟨b, o, e, h⟩ := h4 (by omega)
    refine ⟨b, o, e, fun i y hy => h i y ?_⟩
    have hi := (List.getElem?_eq_some_iff.1 hy).1
    rw [List.length_take] at hi
    rwa [List.getElem?_take_of_lt (by omega)] at hy⟩
  clear hL'
  obtain ⟨a, c, rfl, hc1, hc2, -, -⟩ := hl
  have EV := Lib.hid (EV0 a c rfl)
  clear EV0
  obtain ⟨a', c', e', -, -, -, hcells⟩ := EV.out
  simp only [Value.slice.injEq] at e'
  obtain ⟨rfl, -, rfl⟩ := e'
  have HC := Lib.hid hcells; clear hcells
  have HX := Lib.hid hx; clear hx
  unfold maxLen at hc2
  have d1 : decide ((50 : Int) < (L.length : Int)) = true := by simp; omega
  have s1 : (50 : Int) ≤ (c : Int) := by omega
  go_enter Try.func3, Try.ntmps3
  go_wp2_with fail
  go_loopw [6, 7] (fun v6 v7 W => ∃ k : Nat, k ≤ 50 ∧ v7 = .int .i64 k ∧ v6 = .string ⟨(traceL x.pr (L'.take k)).toArray⟩ ∧ TxMid w x W) (fun _ i _ => 50 - (RowKit.intOf i).toNat)
  case atStart => exact ⟨0, by omega, rfl, rfl, tx_init w x⟩
  case round =>
    obtain ⟨k, hk, rfl, rfl, hmid⟩ := hrel
    have MID := Lib.hid hmid
    clear hmid
    generalize wr = W at *
    by_cases hlt : k < 50
    · obtain ⟨b, o, rfl, hcl⟩ := HC.out (by omega)
      obtain ⟨y, hy⟩ : ∃ y, L'[k]? = some y := ⟨_, List.getElem?_eq_getElem (by omega)⟩
      obtain ⟨hok, hce⟩ := hcl k y hy
      have hbw : b < w.heap.size := cell_lt (hce 0 _ rfl)
      have e : ∀ j u, y.cells[j]? = some u → W.cell? ⟨b, o + k * 8 + j, none⟩ = some u := fun j u hu => (World.cell?_of_block (w := w) (MID.out.bel.block b hbw)).trans (hce j u hu)
      have c0 := e 0 _ rfl
      have c1 := e 1 _ rfl
      have c2 := e 2 _ rfl
      have c3 := e 3 _ rfl
      have c4 := e 4 _ rfl
      have c5 := e 5 _ rfl
      have c6 := e 6 _ rfl
      have c7 := e 7 _ rfl
      rw [Nat.add_zero] at c0
      have d0 : W.cell? ⟨w.heap.size, 0, none⟩ = some (.int .i64 x.pr) := cell_of_blk MID.out.ev 0
      have HY := Lib.hid hy
      have HOK := Lib.hid hok
      clear hcl hce e hok hy
      have i0 : (0 : Int) ≤ (k : Int) := by omega
      have i1 : (k : Int) < (50 : Int) := by omega
      by_cases hq : y.pr = x.pr
      · have hq' : (y.pr == x.pr) = true := beq_iff_eq.2 hq
        have HQ := Lib.hid hq
        clear hq
        have ec := fun W args => enter_own args W
        have wa := want_add x.pr L' k y HY.out (by omega) (by omega) HQ.out
        go_wp2_with fail
        go_quiet (fail)
        go_wp2_with fail
        (with_reducible refine (own_any y HOK.out _).mono ?_)
        rintro e w2 ⟨rfl, hb2⟩
        have M2 := Lib.hid ((MID.out.drewN _).next hb2)
        clear hb2
        go_wp2
        go_roundw
        case rel => exact ⟨k + 1, by omega, by go_num, rfl, M2.out⟩
        case measure => simp [RowKit.intOf]; omega
      · have hq' : (y.pr == x.pr) = false := beq_eq_false_iff_ne.2 hq
        have HQ := Lib.hid hq
        clear hq
        go_wp2_with fail
        go_quiet (fail)
        go_wp2
        go_roundw
        case rel =>
          refine ⟨k + 1, by omega, by go_num, ?_, MID.out.drewN _⟩
          rw [take_snoc HY.out, traceL_append, show traceL x.pr [y] = [] by simp [traceL, HQ.out], List.append_nil]
        case measure => simp [RowKit.intOf]; omega
    · obtain rfl : k = 50 := by omega
      rw [show L'.take 50 = L' by rw [← hL50, List.take_length]]
      go_wp2_with fail
      have ec := fun W args => enter_own args W
      have d0 : W.cell? ⟨w.heap.size, 0, none⟩ = some (.int .i64 x.pr) := cell_of_blk MID.out.ev 0
      have d1 : W.cell? ⟨w.heap.size, 1, none⟩ = some (.int .i64 x.ki) := cell_of_blk MID.out.ev 1
      have d2 : W.cell? ⟨w.heap.size, 2, none⟩ = some (.int .u64 x.pc) := cell_of_blk MID.out.ev 2
      have d3 : W.cell? ⟨w.heap.size, 3, none⟩ = some (.int .i64 x.op) := cell_of_blk MID.out.ev 3
      have d4 : W.cell? ⟨w.heap.size, 4, none⟩ = some (.int .i64 x.co) := cell_of_blk MID.out.ev 4
      have d5 : W.cell? ⟨w.heap.size, 5, none⟩ = some (.bool x.t) := cell_of_blk MID.out.ev 5
      have d6 : W.cell? ⟨w.heap.size, 6, none⟩ = some (.int .u64 x.m) := cell_of_blk MID.out.ev 6
      have d7 : W.cell? ⟨w.heap.size, 7, none⟩ = some (.int .u64 x.a) := cell_of_blk MID.out.ev 7
      have MD : Hid (TxMid w x W.drew) := Lib.hid ⟨MID.out.ev, MID.out.bel.drew⟩
      first | go_region_held3 (fun w' => w'.cell? ⟨w.heap.size, 0, none⟩ = some (.int .i64 x.pr) ∧ w'.cell? ⟨w.heap.size, 1, none⟩ = some (.int .i64 x.ki) ∧ w'.cell? ⟨w.heap.size, 2, none⟩ = some (.int .u64 x.pc) ∧ w'.cell? ⟨w.heap.size, 3, none⟩ = some (.int .i64 x.op) ∧ w'.cell? ⟨w.heap.size, 4, none⟩ = some (.int .i64 x.co) ∧ w'.cell? ⟨w.heap.size, 5, none⟩ = some (.bool x.t) ∧ w'.cell? ⟨w.heap.size, 6, none⟩ = some (.int .u64 x.m) ∧ w'.cell? ⟨w.heap.size, 7, none⟩ = some (.int .u64 x.a)) (first | (with_reducible exact keepC8 ‹Below _ _ _› (by assumption)) | go_keep) (first | ((go_at_call 7; (with_reducible refine (event_call x HX.out _).mono ?_); rintro e wa ⟨rfl, hba⟩; have HA := Lib.hid hba)) | ((go_at_call 5; (with_reducible refine (own_any x HX.out _).mono ?_); rintro e wb ⟨rfl, hbb⟩; have HB := Lib.hid hbb)) | ((go_at_call 8; (with_reducible refine (trace_any L' _ x.pr _ (by omega) (EV.out.below ((MD.out.next HA.out).next HB.out).bel)).mono ?_); rintro e wc ⟨rfl, hbc⟩; have HCC := Lib.hid hbc)) | ((go_at_call 9; (with_reducible refine (one_any _).mono ?_); rintro e wd ⟨rfl, hbd⟩; have HD := Lib.hid hbd))) | fail
      have M5 := Lib.hid ((((MD.out.next HA.out).next HB.out).next HCC.out).next HD.out)
      go_wp2
      go_ret
      exact ⟨rfl, M5.out.bel⟩
end Go.Proofs.Ythlgkicidbagbaa
