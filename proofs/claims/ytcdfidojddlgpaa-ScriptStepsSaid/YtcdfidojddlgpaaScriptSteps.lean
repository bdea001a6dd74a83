/- Any bytes are the document's steps, one behind the other, and whoever goes over them may end; any steps have its bytes, or none. For every row of bytes, every row of steps and every number. No condition. -/
import Derived.Test.YtcdfidojddlgpaaRows
import Derived.Test.YtcdfidojddlgpaaBy29
import Derived.OpenShut
import Derived.BigRegion
import Derived.Deep.Slices
namespace Go.Proofs.Ytcdfidojddlgpaa.scriptSteps
set_option maxRecDepth 100000
open Go Go.RowKit Go.ChangeMaps Go.Lib Go.Proofs.Ytcdfidojddlgpaa Go.ChangeShapes Go.WideShapes Go.ChangeAt
set_option linter.unusedVariables false

/-! ### Steps and their bytes -/
def numsOf (x : Stp) : List Int := [x.1, x.2.1, x.2.2]
def packed (L : List Stp) : ByteArray := strOfNums (L.flatMap numsOf)
theorem nums_length (L : List Stp) : (L.flatMap numsOf).length = 3 * L.length := by
  induction L with
  | nil => rfl
  | cons x r ih => rw [List.flatMap_cons, List.length_append, ih, List.length_cons]; simp [numsOf]; omega
theorem packed_size (L : List Stp) : (packed L).size = 3 * L.length := by rw [packed, strOfNums_size, nums_length]
theorem nums_range (L : List Stp) (h : L.all okStep = true) : ∀ x ∈ L.flatMap numsOf, 0 ≤ x ∧ x < 256 := by
  intro x hx
  obtain ⟨y, hy, hxy⟩ := List.mem_flatMap.1 hx
  have := List.all_eq_true.1 h y hy
  have := of_decide_eq_true this
  simp only [numsOf, List.mem_cons, List.not_mem_nil, or_false] at hxy
  omega
theorem nums_at : ∀ (L : List Stp) (k : Nat) (x : Stp), L[k]? = some x → (L.flatMap numsOf)[3 * k]? = some x.1 ∧ (L.flatMap numsOf)[3 * k + 1]? = some x.2.1 ∧ (L.flatMap numsOf)[3 * k + 2]? = some x.2.2
  | [], _, _, h => by simp at h
  | y :: r, 0, x, h => by simp at h; subst h; simp [numsOf]
  | y :: r, k + 1, x, h => by
    have h' : r[k]? = some x := by simpa using h
    obtain ⟨h1, h2, h3⟩ := nums_at r k x h'
    have e : (y :: r).flatMap numsOf = y.1 :: y.2.1 :: y.2.2 :: r.flatMap numsOf := rfl
    rw [e, show 3 * (k + 1) = 3 * k + 3 by omega]
    exact ⟨by simpa using h1, by simpa using h2, by simpa using h3⟩
theorem byte_packed (xs : List Int) (hr : ∀ x ∈ xs, 0 ≤ x ∧ x < 256) (i : Nat) (x : Int) (h : xs[i]? = some x) : byteAt (strOfNums xs) i = x := by
  have hm := hr x (List.mem_of_getElem? h)
  simp only [byteAt, strOfNums_data, List.getD_eq_getElem?_getD, List.getElem?_map, h, Option.map_some, Option.getD_some]
  rw [UInt8.toNat_ofNat']
  omega
theorem steps_packed (L : List Stp) (h : L.all okStep = true) : stepsTo (packed L) (packed L).size = L := by
  apply List.ext_getElem?
  intro k
  by_cases hk : k < L.length
  · have hx := List.getElem?_eq_getElem hk
    obtain ⟨h1, h2, h3⟩ := nums_at L k L[k] hx
    have hr := nums_range L h
    have hok := of_decide_eq_true (List.all_eq_true.1 h L[k] (List.getElem_mem hk))
    unfold stepsTo
    rw [packed_size, List.getElem?_map, List.getElem?_range (by omega), hx]
    simp only [Option.map_some, stepAt, packed]
    rw [byte_packed _ hr _ _ h1, byte_packed _ hr _ _ h2, byte_packed _ hr _ _ h3]
    simp only [kindOf]
    rw [if_neg (by omega)]
  · rw [List.getElem?_eq_none (by rw [stepsTo_length, packed_size]; omega), List.getElem?_eq_none (by omega)]

/-- A row of the call's own that holds the bytes of steps. -/
theorem raw_of_owns {w : World} {base : Nat} {v : Value} {L : List Stp} (hL : L.length ≤ 1000) (hok : L.all okStep = true) (h : w.ownsRow base 5 1 v (3 * L.length) (bytesCells L)) : RawIs w v (packed L) := by
  obtain ⟨_, h⟩ := h
  rcases h with ⟨rfl, h0⟩ | ⟨g, cap, cur, rfl, _, hg, hc, hm, hcs, ht⟩
  · exact ⟨none, 0, by rw [packed_size, h0], by rw [packed_size]; omega, by omega, fun hp => by rw [packed_size] at hp; omega⟩
  · unfold maxLen at hm
    refine ⟨_, cap, by rw [packed_size], by rw [packed_size]; exact hc, by omega, fun _ => ⟨g, 0, rfl, ?_⟩⟩
    refine bytes_of_nums (n := 3 * L.length) (nums_length L) (nums_range L hok) fun i hi => ?_
    have e : bytesCells L = (L.flatMap numsOf).map (Value.int .u8) := by
      unfold bytesCells
      rw [List.map_flatMap]; rfl
    have hx : (L.flatMap numsOf)[i]? = some ((L.flatMap numsOf).getD i 0) := by
      rw [List.getD_eq_getElem?_getD, List.getElem?_eq_getElem (by rw [nums_length]; exact hi)]; rfl
    have h1 : (cur.toList.take (3 * L.length * 1))[i]? = some (.int .u8 ((L.flatMap numsOf).getD i 0)) := by
      rw [ht, e, List.getElem?_map, hx]; rfl
    rw [List.getElem?_take_of_lt (by omega)] at h1
    rw [cell_of_blk hg]
    simpa using h1

theorem cells_at (L : List Stp) (k : Nat) (x : Stp) (h : L[k]? = some x) : (stepsCells L)[k * 3]? = some (.int .i64 x.1) ∧ (stepsCells L)[k * 3 + 1]? = some (.int .i64 x.2.1) ∧ (stepsCells L)[k * 3 + 2]? = some (.int .i64 x.2.2) := by
  have e : stepsCells L = (L.flatMap numsOf).map (Value.int .i64) := by
    unfold stepsCells; rw [List.map_flatMap]; rfl
  obtain ⟨h1, h2, h3⟩ := nums_at L k x h
  rw [e, Nat.mul_comm k 3]
  simp only [List.getElem?_map, h1, h2, h3, Option.map_some, and_self]

/-- A row of the call's own that holds steps: its cells. -/
theorem own_steps {w : World} {base e : Nat} {v : Value} {n : Nat} {L : List Stp} (h : w.ownsRow base e 3 v n (stepsCells L)) (hn : 0 < n) :
    ∃ g cap, v = .slice (some ⟨g, 0, none⟩) n cap ∧ base ≤ g ∧ ∃ cur t, w.heap[g]? = some (.cells cur t (0, 0)) ∧ ∀ k x, L[k]? = some x → cur[k * 3]? = some (.int .i64 x.1) ∧ cur[k * 3 + 1]? = some (.int .i64 x.2.1) ∧ cur[k * 3 + 2]? = some (.int .i64 x.2.2) := by
  obtain ⟨hl, h⟩ := h
  rcases h with ⟨rfl, h0⟩ | ⟨g, cap, cur, rfl, hb, hg, hc, hm, hcs, ht⟩
  · omega
  · refine ⟨g, cap, rfl, hb, cur, _, hg, fun k x hx => ?_⟩
    have hk : k < L.length := (List.getElem?_eq_some_iff.1 hx).1
    have hLn : L.length = n := by rw [stepsCells_length] at hl; omega
    obtain ⟨h1, h2, h3⟩ := cells_at L k x hx
    rw [← ht] at h1 h2 h3
    rw [List.getElem?_take_of_lt (by omega)] at h1 h2 h3
    exact ⟨by simpa using h1, by simpa using h2, by simpa using h3⟩

/-! ### The walk -/
/-- The document's steps lie in a row of the call's own. -/
def WantIs (wx : World) (vw : Value) (s : ByteArray) : Prop :=
  ∃ a cap, vw = .slice a (s.size / 3) cap ∧ (0 < s.size / 3 → ∃ g, a = some ⟨g, 0, none⟩ ∧ ∀ k x, (stepsTo s s.size)[k]? = some x →
    wx.cell? ⟨g, k * 3, none⟩ = some (.int .i64 x.1) ∧ wx.cell? ⟨g, k * 3 + 1, none⟩ = some (.int .i64 x.2.1) ∧ wx.cell? ⟨g, k * 3 + 2, none⟩ = some (.int .i64 x.2.2))
/-- The document's steps' row lies before a block. -/
def WantLow (vw : Value) (H : Nat) : Prop := ∀ a n c, vw = .slice (some a) n c → 0 < n → a.block < H

theorem want_of_owns {w : World} {base e : Nat} {v : Value} {s : ByteArray} (h : w.ownsRow base e 3 v (s.size / 3) (stepsCells (stepsTo s s.size))) : WantIs w v s ∧ WantLow v w.heap.size := by
  rcases Nat.eq_zero_or_pos (s.size / 3) with h0 | hp
  · rcases h.2 with ⟨rfl, _⟩ | ⟨g, cap, cur, rfl, _⟩
    · exact ⟨⟨none, 0, by rw [h0], fun hp => by omega⟩, fun a n c hv hn => by cases hv⟩
    · exact ⟨⟨_, cap, rfl, fun hp => by omega⟩, fun a n c hv hn => by cases hv; omega⟩
  · obtain ⟨g, cap, rfl, _, cur, t, hg, hc⟩ := own_steps h hp
    refine ⟨⟨_, cap, rfl, fun _ => ⟨g, rfl, fun k x hx => ?_⟩⟩, fun a n c hv hn => by cases hv; exact blk_lt hg⟩
    obtain ⟨h1, h2, h3⟩ := hc k x hx
    exact ⟨by rw [cell_of_blk hg]; exact h1, by rw [cell_of_blk hg]; exact h2, by rw [cell_of_blk hg]; exact h3⟩

theorem WantIs.touch {F : Nat → Prop} {w w' : World} {v : Value} {s : ByteArray} {H : Nat} (h : WantIs w v s) (hl : WantLow v H) (hH : H ≤ w.heap.size) (t : Touch F w w') (hF : ∀ i, i < H → ¬ F i) : WantIs w' v s := by
  obtain ⟨a, cap, rfl, hc⟩ := h
  refine ⟨a, cap, rfl, fun hp => ?_⟩
  obtain ⟨g, rfl, hcell⟩ := hc hp
  have hg : g < H := hl _ _ _ rfl hp
  refine ⟨g, rfl, fun k x hx => ?_⟩
  obtain ⟨h1, h2, h3⟩ := hcell k x hx
  have e := t.block g (by omega) (hF g hg)
  refine ⟨?_, ?_, ?_⟩
  · rw [World.cell?_of_block (w := w) e]; exact h1
  · rw [World.cell?_of_block (w := w) e]; exact h2
  · rw [World.cell?_of_block (w := w) e]; exact h3

/-- Bytes that were there when the call began. -/
def RawLow (v : Value) (H : Nat) : Prop := ∀ a n c, v = .slice (some a) n c → 0 < n → a.block < H
theorem raw_low {w : World} {v : Value} {s : ByteArray} (h : RawIs w v s) : RawLow v w.heap.size := by
  obtain ⟨a, cap, rfl, _, _, hb⟩ := h
  intro a' n c hv hn
  cases hv
  obtain ⟨b, o, e, hby⟩ := hb hn
  cases e
  exact World.block_lt_of_cell? w _ (hby 0 hn)
theorem raw_touch {F : Nat → Prop} {w w' : World} {v : Value} {s : ByteArray} {H : Nat} (h : RawIs w v s) (hl : RawLow v H) (hH : H ≤ w.heap.size) (t : Touch F w w') (hF : ∀ i, i < H → ¬ F i) : RawIs w' v s := by
  obtain ⟨a, cap, rfl, h1, h2, hb⟩ := h
  refine ⟨a, cap, rfl, h1, h2, fun hp => ?_⟩
  obtain ⟨b, o, rfl, hby⟩ := hb hp
  have hbl : b < H := hl _ _ _ rfl hp
  exact ⟨b, o, rfl, bytes_block hby (t.block b (by omega) (hF b hbl))⟩

/-- What holds while steps are handed on: H is where the call's own variables begin. -/
structure SInv (w : World) (H : Nat) (vb vw : Value) (s : ByteArray) (most : Int) (k : Nat) (wx : World) : Prop where
  m : Var1 wx w.heap.size (.int .i64 most)
  wv : Var1 wx H vw
  bx : Var1 wx (H + 1) vb
  n : Var1 wx (H + 2) (.int .i64 k)
  f : Var1 wx (H + 3) (.bool true)
  raw : RawIs wx vb s
  rlow : RawLow vb w.heap.size
  want : WantIs wx vw s
  wlow : WantLow vw H
  bel : Below w.heap.size w wx
  hH : w.heap.size < H

theorem SInv.touch {F : Nat → Prop} {w : World} {H : Nat} {vb vw : Value} {s : ByteArray} {most : Int} {k : Nat} {wx wy : World} (h : SInv w H vb vw s most k wx) (t : Touch F wx wy) (hF : ∀ i, i < H + 4 → ¬ F i) : SInv w H vb vw s most k wy := by
  have h1 := h.hH
  have h2 := h.f.lt
  refine ⟨h.m.touch t (hF _ (by omega)), h.wv.touch t (hF _ (by omega)), h.bx.touch t (hF _ (by omega)), h.n.touch t (hF _ (by omega)), h.f.touch t (hF _ (by omega)), raw_touch h.raw h.rlow h.bel.size t (fun i hi => hF i (by omega)), h.rlow,
    h.want.touch h.wlow (by omega) t (fun i hi => hF i (by omega)), h.wlow, ?_, h.hH⟩
  exact h.bel.trans ⟨t.os, t.tape, t.output, t.size, fun i hi => t.block i (by have := h.bel.size; omega) (hF i (by omega))⟩

theorem SInv.next {w : World} {H : Nat} {vb vw : Value} {s : ByteArray} {most : Int} {k : Nat} {wx wy : World} (h : SInv w H vb vw s most k wx)
    (hn : Var1 wy (H + 2) (.int .i64 ((k : Int) + 1))) (hf : Var1 wy (H + 3) (.bool true)) (t : Touch (fun i => i = H + 2 ∨ i = H + 3) wx wy) : SInv w H vb vw s most (k + 1) wy := by
  have h1 := h.hH
  have h2 := h.f.lt
  refine ⟨h.m.touch t (by omega), h.wv.touch t (by omega), h.bx.touch t (by omega), hn, hf, raw_touch h.raw h.rlow h.bel.size t (fun i hi => by omega), h.rlow,
    h.want.touch h.wlow (by omega) t (fun i hi => by omega), h.wlow, ?_, h.hH⟩
  exact h.bel.trans ⟨t.os, t.tape, t.output, t.size, fun i hi => t.block i (by have := h.bel.size; omega) (by omega)⟩

theorem sinv_init {w w2 : World} {vb vw : Value} {s : ByteArray} {most : Int} {t1 t2 t3 t4 : TypeId} (hm : Var1 w2 w.heap.size (.int .i64 most)) (hr : RawIs w vb s) (hb : Below w.heap.size w w2) (hrl : RawLow vb w.heap.size) (hw : WantIs w2 vw s) (hl : WantLow vw w2.heap.size) (hz : w.heap.size < w2.heap.size) :
    SInv w w2.heap.size vb vw s most 0 ((((w2.alloc (.cells #[vw] t1)).alloc (.cells #[vb] t2)).alloc (.cells #[.int .i64 0] t3)).alloc (.cells #[.bool true] t4)) := by
  have t : Touch (fun _ => False) w2 ((((w2.alloc (.cells #[vw] t1)).alloc (.cells #[vb] t2)).alloc (.cells #[.int .i64 0] t3)).alloc (.cells #[.bool true] t4)) := ((((Touch.refl _ w2).alloc _).alloc _).alloc _).alloc _
  refine ⟨hm.touch t (fun h => h), ⟨_, blk_alloc_old (blk_alloc_old (blk_alloc_old (blk_alloc_new w2 _) _) _) _⟩, ⟨_, blk_alloc_old (blk_alloc_old (blk_alloc_new' _ _ _ (by simp)) _) _⟩, ⟨_, blk_alloc_old (blk_alloc_new' _ _ _ (by simp)) _⟩, ⟨_, blk_alloc_new' _ _ _ (by simp)⟩,
    (hr.touch (Touch.of_below hb _)).touch t, hrl, hw.touch hl (Nat.le_refl _) t (fun _ _ h => h), hl, ?_, hz⟩
  exact hb.trans ⟨t.os, t.tape, t.output, t.size, fun i hi => t.block i (by omega) (fun h => h)⟩

/-- Whether steps may be told as bytes, and how many these are. -/
def mayOf (L : List Stp) : Bool := L.all okStep
def cLen (L : List Stp) : Nat := if L.all okStep then 3 * L.length else 0
theorem mayOf_snoc (L : List Stp) (k : Nat) (x : Stp) (h : L[k]? = some x) : mayOf (L.take (k + 1)) = (mayOf (L.take k) && okStep x) := by
  unfold mayOf; rw [List.take_add_one, h, List.all_append]; simp

/-- What holds in the second going over: k steps are handed on. -/
def FInv (w : World) (H B : Nat) (vb vw : Value) (s : ByteArray) (most : Int) (q k : Nat) (wx : World) : Prop :=
  SInv w H vb vw s most (s.size / 3) wx ∧ Var1 wx B (.int .i64 k) ∧ k ≤ q ∧ H + 4 ≤ B
def FDone (w : World) (H B : Nat) (vb vw : Value) (s : ByteArray) (most : Int) (q k : Nat) (wx : World) : Prop :=
  SInv w H vb vw s most (s.size / 3) wx ∧ Var1 wx B (.int .i64 ((k : Int) + 1)) ∧ k = q ∧ H + 4 ≤ B

set_option maxHeartbeats 8000000 in
theorem walk_small (vb vl : Value) (s : ByteArray) (L : List Stp) (most : Int) (w : World) (hb : RawIs w vb s) (hl : StepsAt w vl L) (hs : s.size ≤ 3000) (hL : L.length ≤ 1000) :
    Calls Try.prog 4 #[vb, vl, .int .i64 most] w (Yes w) := by
  have HRB := Lib.hid hb
  have HSL := Lib.hid hl
  have hrl := raw_low hb
  obtain ⟨ba, bc, rfl, -, -, -⟩ := hb
  obtain ⟨la, lc, rfl, -⟩ := hl
  have hq := qFunc
  have HRL := Lib.hid hrl
  clear hrl
  have g1 : decide ((s.size : Int) > 3000) = false := by simp; omega
  have g2 : decide ((L.length : Int) > 1000) = false := by simp; omega
  go_enter Try.func4, Try.ntmps4
  go_wp2_with fail
  refine (ref_steps _ s _ (by omega) (HRB.out.touch ((Touch.refl _ _).alloc _))).mono ?_
  rintro e w2 ⟨vw, rfl, hown, hb2⟩
  have HB2 : Hid (Below w.heap.size w w2) := Lib.hid (((Below.refl _ _).alloc (Nat.le_refl _) _).trans (hb2.mono (by simp)))
  have HM2 : Hid (Var1 w2 w.heap.size (.int .i64 most)) := Lib.hid ((Var1.alloc w _ _).touch (Touch.of_below hb2 (fun _ => False)) (fun h => h))
  obtain ⟨hwant, hlow⟩ := want_of_owns hown
  have HWA := Lib.hid hwant; have HLO := Lib.hid hlow
  have hz2 : w.heap.size + 1 ≤ w2.heap.size := by have := hb2.size; simpa using this
  obtain ⟨wa, wc, rfl, -⟩ := hwant
  clear hown hb2 hlow
  go_wp2_with (first | (go_at_call 11; go_in) | fail)
  refine (steps_each (.slice ba s.size bc) s (w2.heap.size + 1) 12 _ (SInv w w2.heap.size (.slice ba s.size bc) (.slice wa (s.size / 3) wc) s most) (fun _ _ => False) enter_want
    (fun k W h => ⟨h.bx.cell, h.raw⟩) (fun k W W' h t => h.touch t (fun _ _ h => h)) ?_ _ ?_).mono ?_
  · intro k W h hk
    obtain ⟨a', c', hv, hc⟩ := h.want
    simp only [Value.slice.injEq] at hv
    obtain ⟨rfl, _, rfl⟩ := hv
    obtain ⟨g, rfl, hcell⟩ := hc (by omega)
    have hx : (stepsTo s s.size)[k]? = some (stepAt s (3 * k)) := by
      unfold stepsTo; rw [List.getElem?_map, List.getElem?_range hk]; rfl
    obtain ⟨k1, k2, k3⟩ := hcell k _ hx
    refine (want_each k (stepAt s (3 * k)) (s.size / 3) _ g h.n h.f (by omega) hk (by omega) h.wv k1 k2 k3).mono ?_
    rintro e W' ⟨he, v1, v2, t⟩
    exact .inl ⟨he, h.next v1 v2 t⟩
  · exact sinv_init HM2.out HRB.out HB2.out HRL.out HWA.out HLO.out (by omega)
  rintro e w5 ⟨rfl, h5⟩
  have HS5 : Hid (SInv w w2.heap.size (.slice ba s.size bc) (.slice wa (s.size / 3) wc) s most (s.size / 3) w5) := by
    rcases h5 with h | ⟨_, _, h⟩
    · exact Lib.hid h
    · exact h.elim
  clear h5
  obtain ⟨q, hq8, hq7⟩ : ∃ q : Nat, most % 8 = q ∧ q < 8 := ⟨(most % 8).toNat, by omega, by omega⟩
  have HQ8 := Lib.hid hq8
  clear hq8
  go_wp2_with fail
  have lf5 := HS5.out.f.lt
  refine (steps_each (.slice ba s.size bc) s (w2.heap.size + 1) 13 _ (FInv w w2.heap.size w5.heap.size (.slice ba s.size bc) (.slice wa (s.size / 3) wc) s most q) (FDone w w2.heap.size w5.heap.size (.slice ba s.size bc) (.slice wa (s.size / 3) wc) s most q) enter_few
    (fun k W h => ⟨h.1.bx.cell, h.1.raw⟩) (fun k W W' h t => ⟨h.1.touch t (fun _ _ h => h), h.2.1.touch t (fun h => h), h.2.2⟩) ?_ _ ?_).mono ?_
  · intro k W h hk
    have hH := h.1.hH
    refine (few_each k q most (stepAt s (3 * k)) h.2.1 h.1.m (by have := h.2.2.2; omega) HQ8.out (by omega)).mono ?_
    rintro e W' ⟨he, v1, t⟩
    have hS := h.1.touch t (fun i hi => by have := h.2.2.2; omega)
    by_cases hkq : k + 1 ≤ q
    · exact .inl ⟨by rw [he]; simp [hkq], hS, v1, hkq, h.2.2.2⟩
    · exact .inr ⟨by rw [he]; simp [hkq], hS, v1, by have := h.2.2.1; omega, h.2.2.2⟩
  · exact ⟨HS5.out.touch ((Touch.refl (fun _ => False) _).alloc _) (fun _ _ h => h), Var1.alloc _ _ _, by omega, by omega⟩
  rintro e w6 ⟨rfl, h6⟩
  have HS6 : Hid (SInv w w2.heap.size (.slice ba s.size bc) (.slice wa (s.size / 3) wc) s most (s.size / 3) w6 ∧ Var1 w6 w5.heap.size (.int .i64 ((min (s.size / 3) (q + 1) : Nat) : Int))) := by
    rcases h6 with h | ⟨k, hk, h⟩
    · refine Lib.hid ⟨h.1, ?_⟩
      rw [Nat.min_eq_left (by have := h.2.2.1; omega)]; exact h.2.1
    · refine Lib.hid ⟨h.1, ?_⟩
      have := h.2.2.1
      rw [show min (s.size / 3) (q + 1) = k + 1 by omega]; exact h.2.1
  clear h6 HS5
  go_wp2_with fail
  refine (bytes_any L _ w6 hL (HSL.out.below HS6.out.1.bel)).mono ?_
  rintro e w7 ⟨hb7, h7⟩
  have HS7 : Hid (SInv w w2.heap.size (.slice ba s.size bc) (.slice wa (s.size / 3) wc) s most (s.size / 3) w7) := Lib.hid (HS6.out.1.touch (Touch.of_below hb7 (fun _ => False)) (fun _ _ h => h))
  have HF7 : Hid (Var1 w7 w5.heap.size (.int .i64 ((min (s.size / 3) (q + 1) : Nat) : Int))) := Lib.hid (HS6.out.2.touch (Touch.of_below hb7 (fun _ => False)) (fun h => h))
  have HSL7 := Lib.hid (HSL.out.below HS7.out.bel)
  have HC : Hid (∃ ca cc, e = .returned (.tuple #[.slice ca (cLen L) cc, .bool (mayOf L)]) ∧ cc ≤ 2 ^ 63 - 1 ∧ (mayOf L = true → RawIs w7 (.slice ca (3 * L.length) cc) (packed L))) := by
    rcases h7 with ⟨hall, vc, rfl, hown⟩ | ⟨hall, rfl⟩
    · have hr := raw_of_owns hL hall hown
      have hr2 := hr
      obtain ⟨ca, cc, rfl, -, hcc, -⟩ := hr
      rw [packed_size] at *
      exact Lib.hid ⟨ca, cc, by rw [cLen, mayOf, hall]; rfl, hcc, fun _ => hr2⟩
    · exact Lib.hid ⟨none, 0, by rw [cLen, mayOf, hall]; rfl, by omega, fun h => by rw [mayOf, hall] at h; cases h⟩
  clear h7 hb7 HS6
  obtain ⟨ca, cc, rfl, hcc, hrc⟩ := HC.out
  have HRC := Lib.hid hrc
  clear hrc HC
  go_wp2_with fail
  go_loop [14, 15] (fun m i => ∃ k : Nat, k ≤ L.length ∧ i = .int .i64 k ∧ m = .bool (mayOf (L.take k))) (fun _ i => L.length - (RowKit.intOf i).toNat)
  case atStart => exact ⟨0, by omega, rfl, rfl⟩
  case round =>
    obtain ⟨k, hk, rfl, rfl⟩ := hrel
    by_cases hlt : k < L.length
    · obtain ⟨x, hx⟩ : ∃ x, L[k]? = some x := ⟨_, List.getElem?_eq_getElem hlt⟩
      have hsn := mayOf_snoc L k x hx
      have HSN := Lib.hid hsn
      clear hsn
      by_cases hm : mayOf (L.take k) = true
      · obtain ⟨a', c', hv, hcl1⟩ := HSL7.out
        simp only [Value.slice.injEq] at hv
        obtain ⟨rfl, -, rfl⟩ := hv
        obtain ⟨b, o, rfl, hcl2⟩ := hcl1 (by omega)
        obtain ⟨c0, c1, c2⟩ := hcl2 k x hx
        clear hcl1 hcl2
        obtain ⟨x0, x1, x2⟩ := x
        have i0 : (0 : Int) ≤ (k : Int) := by omega
        have i1 : (k : Int) < (L.length : Int) := by omega
        have HX := Lib.hid hx
        clear hx
        by_cases hok : 0 ≤ x0 ∧ x0 ≤ 9 ∧ 0 ≤ x1 ∧ x1 ≤ 255 ∧ 0 ≤ x2 ∧ x2 ≤ 255
        · have hgo : mayOf (L.take (k + 1)) = true := by rw [HSN.out, hm]; simp [okStep]; exact hok
          obtain ⟨t1, t2, t3, t4, t5, t6⟩ := hok
          have HG := Lib.hid hgo
          clear hgo
          go_wp2
          go_round
          case rel => exact ⟨k + 1, by omega, by go_num, by rw [HG.out]⟩
          case measure => simp [RowKit.intOf]; omega
        · have hgo : mayOf (L.take (k + 1)) = false := by rw [HSN.out, hm]; simp [okStep]; omega
          have HG := Lib.hid hgo
          clear hgo
          by_cases q1 : x0 < 0
          · clear hok
            go_wp2
            go_round
            case rel => exact ⟨k + 1, by omega, by go_num, by rw [HG.out]⟩
            case measure => simp [RowKit.intOf]; omega
          by_cases q2 : 9 < x0
          · clear hok
            go_wp2
            go_round
            case rel => exact ⟨k + 1, by omega, by go_num, by rw [HG.out]⟩
            case measure => simp [RowKit.intOf]; omega
          by_cases q3 : x1 < 0
          · clear hok
            go_wp2
            go_round
            case rel => exact ⟨k + 1, by omega, by go_num, by rw [HG.out]⟩
            case measure => simp [RowKit.intOf]; omega
          by_cases q4 : 255 < x1
          · clear hok
            go_wp2
            go_round
            case rel => exact ⟨k + 1, by omega, by go_num, by rw [HG.out]⟩
            case measure => simp [RowKit.intOf]; omega
          by_cases q5 : x2 < 0
          · clear hok
            go_wp2
            go_round
            case rel => exact ⟨k + 1, by omega, by go_num, by rw [HG.out]⟩
            case measure => simp [RowKit.intOf]; omega
          by_cases q6 : 255 < x2
          · clear hok
            go_wp2
            go_round
            case rel => exact ⟨k + 1, by omega, by go_num, by rw [HG.out]; simp; omega⟩
            case measure => simp [RowKit.intOf]; omega
          · exact (hok (by omega)).elim
      · have hm' : mayOf (L.take k) = false := by simpa using hm
        have hgo : mayOf (L.take (k + 1)) = false := by rw [HSN.out, hm']; rfl
        have HG := Lib.hid hgo
        clear hm hgo
        go_wp2
        go_round
        case rel => exact ⟨k + 1, by omega, by go_num, by rw [HG.out]⟩
        case measure => simp [RowKit.intOf]; omega
    · obtain rfl : k = L.length := by omega
      have hfull : mayOf (L.take L.length) = mayOf L := by rw [List.take_length]
      rw [hfull]
      have c1 := HS7.out.f.cell
      have c2 := HS7.out.n.cell
      have c3 := HS7.out.wv.cell
      have c4 := HS7.out.m.cell
      have c5 := HF7.out.cell
      have hm7 := i64_and7 most
      rw [HQ8.out] at hm7
      by_cases hmay : mayOf L = true
      · have hcl : cLen L = 3 * L.length := by unfold cLen; unfold mayOf at hmay; rw [if_pos hmay]
        have hrc := HRC.out hmay
        have HRC2 := Lib.hid hrc
        have HMAY := Lib.hid hmay
        rw [hcl, hmay]
        clear hrc hcl hmay hfull HRC
        go_wp2_with fail
        refine (ref_steps _ (packed L) _ (by rw [packed_size]; omega) HRC2.out).mono ?_
        rintro e w8 ⟨vb8, rfl, hown8, hb8⟩
        rw [steps_packed L HMAY.out, packed_size, show 3 * L.length / 3 = L.length by omega] at hown8
        have HO8 := Lib.hid hown8
        have HSL8 := Lib.hid (HSL7.out.below hb8)
        have HB8 : Hid (Below w.heap.size w w8) := Lib.hid (HS7.out.bel.trans (hb8.mono HS7.out.bel.size))
        clear hown8 hb8
        go_wp2_with fail
        go_loopw [17] (fun i wr => ∃ k : Nat, k ≤ L.length ∧ i = .int .i64 k ∧ Touch (fun _ => False) w8 wr) (fun i _ => L.length - (RowKit.intOf i).toNat)
        case atStart => exact ⟨0, by omega, rfl, Touch.refl _ _⟩
        case round =>
          obtain ⟨k, hk, rfl, ht⟩ := hrel
          have HT := Lib.hid ht
          clear ht
          by_cases hlt : k < L.length
          · obtain ⟨x, hx⟩ : ∃ x, L[k]? = some x := ⟨_, List.getElem?_eq_getElem hlt⟩
            obtain ⟨a', c', hv, hcl1⟩ := HSL8.out
            simp only [Value.slice.injEq] at hv
            obtain ⟨rfl, -, rfl⟩ := hv
            obtain ⟨b, o, rfl, hcl2⟩ := hcl1 (by omega)
            obtain ⟨e0, e1, e2⟩ := hcl2 k x hx
            obtain ⟨g, gcap, rfl, -, cur, t, hg, hc3⟩ := own_steps HO8.out (by omega)
            obtain ⟨d0, d1, d2⟩ := hc3 k x hx
            have tb := HT.out.block b (World.block_lt_of_cell? w8 _ e0) (fun h => h)
            have tg := HT.out.block g (blk_lt hg) (fun h => h)
            rw [hg] at tg
            rw [← World.cell?_of_block (w := w8) tb] at e0 e1 e2
            rw [← cell_of_blk tg] at d0 d1 d2
            clear hcl1 hcl2 hc3 hg tb tg
            obtain ⟨x0, x1, x2⟩ := x
            have i0 : (0 : Int) ≤ (k : Int) := by omega
            have i1 : (k : Int) < (L.length : Int) := by omega
            clear hx
            go_wp2
            go_region
            go_wp2
            go_round
            case rel => exact ⟨k + 1, by omega, by go_num, HT.out.drew⟩
            case measure => simp [RowKit.intOf]; omega
          · go_wp2_with fail
            refine (one_any wr).mono ?_
            rintro e w9 ⟨rfl, hb9⟩
            have HB9 : Hid (Below w.heap.size w w9) := Lib.hid (one_below HB8.out HT.out |>.trans (hb9.mono (by have := HB8.out.size; have := HT.out.size; omega)))
            clear hb9
            go_wp2
            go_ret
            exact ⟨rfl, HB9.out⟩
      · have hmay' : mayOf L = false := by simpa using hmay
        have hcl : cLen L = 0 := by unfold cLen; unfold mayOf at hmay'; rw [hmay']; rfl
        rw [hcl, hmay']
        clear hcl hmay hmay' hfull
        go_wp2_with fail
        have hsz : (⟨#[]⟩ : ByteArray).size = 0 := rfl
        refine (ref_steps _ ⟨#[]⟩ _ (by rw [hsz]; omega) ⟨ca, cc, rfl, by rw [hsz]; omega, ?_, fun h => by rw [hsz] at h; omega⟩).mono ?_
        · exact hcc
        rintro e w8 ⟨vb8, rfl, hown8, hb8⟩
        have HB8 : Hid (Below w.heap.size w w8) := Lib.hid (HS7.out.bel.trans (hb8.mono HS7.out.bel.size))
        clear hown8 hb8
        go_wp2_with fail
        go_loop [17] (fun i => i = .int .i64 0) (fun i => 0)
        case atStart => rfl
        case round =>
          subst hrel
          go_wp2_with fail
          refine (one_any w8).mono ?_
          rintro e w9 ⟨rfl, hb9⟩
          have HB9 : Hid (Below w.heap.size w w9) := Lib.hid (HB8.out.trans (hb9.mono HB8.out.size))
          clear hb9
          go_wp2
          go_ret
          exact ⟨rfl, HB9.out⟩

theorem walk_bytes (ba : Option Addr) (bn bc : Nat) (la : Option Addr) (ln lc : Nat) (most : Int) (w : World) (hs : 3000 < bn) :
    Calls Try.prog 4 #[.slice ba bn bc, .slice la ln lc, .int .i64 most] w (Yes w) := by
  have g1 : decide ((bn : Int) > 3000) = true := by simp; omega
  go_enter Try.func4, Try.ntmps4
  go_wp2
  go_ret
  exact ⟨rfl, (Below.refl _ _).alloc (Nat.le_refl _) _⟩

theorem walk_list (ba : Option Addr) (bn bc : Nat) (la : Option Addr) (ln lc : Nat) (most : Int) (w : World) (hs : bn ≤ 3000) (hl : 1000 < ln) :
    Calls Try.prog 4 #[.slice ba bn bc, .slice la ln lc, .int .i64 most] w (Yes w) := by
  have g1 : decide ((bn : Int) > 3000) = false := by simp; omega
  have g2 : decide ((ln : Int) > 1000) = true := by simp; omega
  go_enter Try.func4, Try.ntmps4
  go_wp2
  go_ret
  exact ⟨rfl, (Below.refl _ _).alloc (Nat.le_refl _) _⟩

theorem walk (W : World) (vb : Value) (hb : ∃ s, RawIs W vb s) (vl : Value) (hl : ∃ L, StepsAt W vl L) (most : Int) (wm : (Lit.int .i64 most).wf = true) :
    Calls Try.prog 4 #[vb, vl, .int .i64 most] W (Yes W) := by
  obtain ⟨s, hb⟩ := hb
  obtain ⟨L, hl⟩ := hl
  by_cases h1 : s.size ≤ 3000
  · by_cases h2 : L.length ≤ 1000
    · exact walk_small vb vl s L most W hb hl h1 h2
    · obtain ⟨ba, bc, rfl, -⟩ := hb
      obtain ⟨la, lc, rfl, -⟩ := hl
      exact walk_list _ _ _ _ _ _ _ _ h1 (by omega)
  · obtain ⟨ba, bc, rfl, -⟩ := hb
    obtain ⟨la, lc, rfl, -⟩ := hl
    exact walk_bytes _ _ _ _ _ _ _ _ (by omega)

theorem raw_of_trod {H : Type} {enc : TypeId × Value → H} {W : World} {base : Nat} {v : Value} {y : DataW H} {ps : List MemPlace} (hok : Value.okWide Try.prog W .any base 31 v)
    (h : DataW.Trod enc Try.prog W 0 (fun _ => true) true 31 v y ps) : ∃ s, RawIs W v s := by
  obtain ⟨a0, l0, c0, rfl⟩ := okWide_slice Try.underlying31 hok
  obtain ⟨fuel, hf⟩ := h
  rcases open_ints Try.underlying31 Try.underlying5 (by kernel_rfl) hf with ⟨hcs, _⟩ | ⟨a, len9, cap9, zs, hcs, _, hl, hm, hz, _, hcell, hwz⟩
  · simp [Value.cells] at hcs
    obtain ⟨rfl, rfl, rfl⟩ := hcs
    exact ⟨⟨#[]⟩, none, 0, rfl, by simp [ByteArray.size], by omega, fun h => by simp [ByteArray.size] at h⟩
  · simp [Value.cells] at hcs
    obtain ⟨rfl, h8, h9⟩ := hcs
    subst h8 h9
    simp only [if_true] at hz
    unfold maxLen at hm
    have hsz : (strOfNums (zs.take l0)).size = l0 := by rw [strOfNums_size, List.length_take, hz, Nat.min_eq_left hl]
    refine ⟨strOfNums (zs.take l0), some a, c0, by rw [hsz], by rw [hsz]; exact hl, by omega, fun hp => ?_⟩
    rw [hsz] at hp
    obtain ⟨b, o, spot⟩ := a
    have hs : spot = none := by simpa [Addr.add] using World.cell?_spot (hcell 0 (by omega))
    subst hs
    refine ⟨b, o, rfl, bytes_of_nums (n := l0) (by rw [List.length_take, hz, Nat.min_eq_left hl]) ?_ ?_⟩
    · intro x hx
      have := hwz x (List.mem_of_mem_take hx)
      have hm : IntKind.u8.min = 0 := rfl
      have hM : IntKind.u8.max = 255 := rfl
      simp [Lit.wf] at this
      omega
    · intro i hi
      have := hcell i (by omega)
      rw [WideShapes.add_plain] at this
      rw [this, List.getD_eq_getElem?_getD, List.getD_eq_getElem?_getD, List.getElem?_take_of_lt hi]

/-- What a row's places say, told as a list. -/
theorem list_of {α : Type} (P : Nat → α → Prop) : ∀ n, (∀ i, i < n → ∃ x, P i x) → ∃ L : List α, L.length = n ∧ ∀ (i : Nat) x, L[i]? = some x → P i x
  | 0, _ => ⟨[], rfl, fun i x h => by simp at h⟩
  | n + 1, h => by
    obtain ⟨L, hL, hP⟩ := list_of P n fun i hi => h i (by omega)
    obtain ⟨x, hx⟩ := h n (by omega)
    refine ⟨L ++ [x], by simp [hL], fun i y hy => ?_⟩
    by_cases hi : i < L.length
    · rw [List.getElem?_append_left hi] at hy; exact hP i y hy
    · have hlt := (List.getElem?_eq_some_iff.1 hy).1
      have : i = n := by simp at hlt; omega
      subst this
      rw [← hL, List.getElem?_append_right (Nat.le_refl _)] at hy
      simp at hy; subst hy; exact hx

theorem steps_of_trod {H : Type} {enc : TypeId × Value → H} {W : World} {base : Nat} {v : Value} {y : DataW H} {ps : List MemPlace} (hok : Value.okWide Try.prog W .any base 32 v)
    (h : DataW.Trod enc Try.prog W 0 (fun _ => true) true 32 v y ps) : ∃ L, StepsAt W v L := by
  obtain ⟨a0, l0, c0, rfl⟩ := okWide_slice Try.underlying32 hok
  obtain ⟨fuel, hf⟩ := h
  rcases Deep.open_slice Try.underlying32 hf with ⟨hcs, _⟩ | ⟨a, len9, cap9, m, n, D, Pl, hcs, _, hl, hm, hmm, _, hx⟩
  · simp [Value.cells] at hcs
    obtain ⟨rfl, rfl, rfl⟩ := hcs
    exact ⟨[], none, 0, rfl, fun h => by simp at h⟩
  · simp [Value.cells] at hcs
    obtain ⟨rfl, h8, h9⟩ := hcs
    subst h8 h9
    simp only [if_true] at hmm
    subst hmm
    have hc3 : Try.prog.cellsOf 39 = 3 := by kernel_rfl
    rw [hc3] at hx
    obtain ⟨b, o, spot⟩ := a
    rcases Nat.eq_zero_or_pos l0 with h0 | hp
    · subst h0
      exact ⟨[], _, _, rfl, fun h => by simp at h⟩
    have hs : spot = none := by
      obtain ⟨cs', h1, _⟩ := hx 0 (by omega)
      obtain ⟨_, hlen, hcell⟩ := World.cells?_some h1
      have := hcell 0 (by omega)
      rw [List.getElem?_eq_getElem (by omega)] at this
      simpa [Addr.add] using World.cell?_spot this
    subst hs
    obtain ⟨L, hL, hP⟩ := list_of (fun i (x : Stp) => W.cell? ⟨b, o + i * 3, none⟩ = some (.int .i64 x.1) ∧ W.cell? ⟨b, o + i * 3 + 1, none⟩ = some (.int .i64 x.2.1) ∧ W.cell? ⟨b, o + i * 3 + 2, none⟩ = some (.int .i64 x.2.2)) l0 (fun i hi => by
      obtain ⟨cs', h1, h2⟩ := hx i (by omega)
      obtain ⟨_, hlen, hcell⟩ := World.cells?_some h1
      obtain ⟨xs, k, _, _, _, hxl, hfield⟩ := DataW.trod_struct Try.underlying39 h2
      obtain ⟨c0, c1, c2, rfl⟩ : ∃ c0 c1 c2, cs' = [c0, c1, c2] := by
        match cs', hlen with
        | [c0, c1, c2], _ => exact ⟨_, _, _, rfl⟩
      obtain ⟨x0, x1, x2, rfl⟩ : ∃ x0 x1 x2, xs = [x0, x1, x2] := by
        match xs, hxl with
        | [x0, x1, x2], _ => exact ⟨_, _, _, rfl⟩
      have f0 := hfield 0 _ rfl
      have f1 := hfield 1 _ rfl
      have f2 := hfield 2 _ rfl
      have g0 : DataW.trod enc Try.prog W 0 (fun _ => true) true k 3 [c0] = some x0 := f0
      have g1 : DataW.trod enc Try.prog W 0 (fun _ => true) true k 3 [c1] = some x1 := f1
      have g2 : DataW.trod enc Try.prog W 0 (fun _ => true) true k 3 [c2] = some x2 := f2
      obtain ⟨z0, e0, _, _⟩ := DataW.trod_int Try.underlying3 g0
      obtain ⟨z1, e1, _, _⟩ := DataW.trod_int Try.underlying3 g1
      obtain ⟨z2, e2, _, _⟩ := DataW.trod_int Try.underlying3 g2
      simp at e0 e1 e2
      subst e0; subst e1; subst e2
      have cell : ∀ j, j < 3 → W.cell? ⟨b, o + i * 3 + j, none⟩ = [Value.int .i64 z0, .int .i64 z1, .int .i64 z2][j]? := fun j hj => by
        have := hcell j hj
        rw [WideShapes.add_plain, WideShapes.add_plain] at this
        exact this
      exact ⟨(z0, z1, z2), cell 0 (by omega), cell 1 (by omega), cell 2 (by omega)⟩)
    exact ⟨L, _, _, by rw [hL], fun _ => ⟨b, o, rfl, hP⟩⟩

theorem own : ownKnob Try.prog.godebug = none := by kernel_rfl
theorem laidOut : laidOutB Try.prog = true := by kernel_rfl
set_option maxRecDepth 100000 in
theorem lifted (os : Os) (started : os.Started) (H : Type) (enc : TypeId × Value → H) :
    ReturnsInHanded {} Try.checked os 4 .any (Rows.scriptStepsSpec.pre6 enc Try.prog Try.f4 Rows.scriptStepsRow.domain false) (Rows.scriptStepsSpec.post enc Try.prog Try.f4 false true false false) := by
  refine returnsInHanded_of_change (C := Try.checked) own started (by kernel_rfl) Try.func4
    (ChangeSpec.witness6 (enc := enc) (C := Try.checked) false ⟨#[], #[.slice none 0 0, .slice none 0 0, .int .i64 0], []⟩ 8 (by kernel_rfl) (by kernel_rfl) (by kernel_rfl) (by kernel_rfl)) ?_
  intro W base args ds gs before hval0 hW hcnd _
  have hval : ∀ (j : Nat) t v, Try.f4.params[j]? = some t → args[j]? = some v → Value.okWide Try.prog W .any base t v := hval0
  have hW' := hW
  obtain ⟨p, q, hA0, hV, rfl, hfz, hnd⟩ := hW
  have hA : DataW.TrodAll enc Try.prog W 0 (fun _ => true) true Try.f4.params.toList args.toList ds p := hA0
  rw [Try.params4] at hA hval
  obtain ⟨v0, vs0, d0, ds0, p0, q0, hargs, rfl, rfl, h0, r0⟩ := trodAll_cons hA
  obtain ⟨v1, vs1, d1, ds1, p1, q1, rfl, rfl, rfl, h1, r1⟩ := trodAll_cons r0
  obtain ⟨v2, vs2, d2, ds2, p2, q2, rfl, rfl, rfl, h2, r2⟩ := trodAll_cons r1
  obtain ⟨rfl, rfl, rfl⟩ := trodAll_nil r2
  obtain rfl : args = #[v0, v1, v2] := by cases args; simp_all
  obtain ⟨rfl, rfl⟩ := trodVars_none hV
  have k0 := h0
  have lt0 : ∀ x ∈ p0, x.block < W.heap.size := by obtain ⟨m, hm⟩ := k0; exact DataW.trod_lt m _ _ _ hm
  have okv0 := (hval 0 31 v0 rfl rfl)
  have k1 := h1
  have lt1 : ∀ x ∈ p1, x.block < W.heap.size := by obtain ⟨m, hm⟩ := k1; exact DataW.trod_lt m _ _ _ hm
  have okv1 := (hval 1 32 v1 rfl rfl)
  obtain ⟨a2, rfl, rfl, rfl, w2⟩ := open_int Try.underlying3 (hval 2 3 v2 rfl rfl) h2
  clear hA0 hval0
  refine (walk W v0 (raw_of_trod okv0 k0) v1 (steps_of_trod okv1 k1) a2 w2).mono fun e W' ⟨he, bel⟩ => ?_
  subst he
  exact ⟨_, rfl, _, _, _, [], _, [], hW', trodAll_mk1 (shut_bool Try.underlying4 _), (trodAll_cons_mk (Below.trod laidOut (by kernel_rfl) (of_decide_eq_true (by kernel_rfl)) k0 bel lt0) (trodAll_cons_mk (Below.trod laidOut (by kernel_rfl) (of_decide_eq_true (by kernel_rfl)) k1 bel lt1) (trodAll_cons_mk (shut_int Try.underlying3 w2) trodAll_mk0))), rfl, bel.frame _, fun h => by cases h⟩

theorem over : Rows.scriptStepsRow.holds Try.pinned (OpenSpec.ofChange Rows.scriptStepsSpec) :=
  OpenClaim.holds_of_wide 4 Try.f4 rfl rfl rfl rfl rfl rfl rfl ⟨rfl, rfl, rfl, rfl, rfl⟩ rfl rfl rfl rfl rfl (by kernel_rfl) Try.func4 (by kernel_rfl)
    (of_decide_eq_true (by kernel_rfl)) (by unfold Func.isWrapper; first | (rw [if_pos (by decide +kernel)]; kernel_rfl) | (rw [if_neg (by decide +kernel)]; exact ⟨rfl, rfl⟩))
    (fun os started H enc _ => lifted os started H enc)

theorem proved : Rows.ScriptStepsSaid := over

end Go.Proofs.Ytcdfidojddlgpaa.scriptSteps
namespace Go.Proofs.Ytcdfidojddlgpaa
theorem scriptSteps_holds : Rows.ScriptStepsSaid := scriptSteps.proved
end Go.Proofs.Ytcdfidojddlgpaa
