/- Under any steps (writes of full blocks, reads, failures that are asked, writes of other bytes) a device tells what the document's device tells. For every number of blocks and every row of steps. No condition. -/
import Derived.Test.YtcdfidojddlgpaaRows
import Derived.Test.YtcdfidojddlgpaaPlays19
import Derived.OpenShut
namespace Go.Proofs.Ytcdfidojddlgpaa.blockPlays
set_option maxRecDepth 100000
open Go Go.RowKit Go.ChangeMaps Go.Lib Go.Proofs.Ytcdfidojddlgpaa Go.ChangeShapes Go.WideShapes Go.ChangeAt
set_option linter.unusedVariables false

theorem qPtr (w : World) (a : Addr) : (binOp .eql 46 (.pointer (some a)) (.pointer none)).run Try.prog w = .ok (.bool false) w := by kernel_rfl
theorem qPtrN (w : World) (a : Addr) : (binOp .neq 46 (.pointer (some a)) (.pointer none)).run Try.prog w = .ok (.bool true) w := by kernel_rfl

def Yes (w : World) (e : Ending) (w' : World) : Prop := e = .returned (.bool true) ∧ Below w.heap.size w w'

/-- The first half: no device. -/
theorem walk_bad (n : Int) (h : n < 1 ∨ 64 < n) (v : Value) (w : World) : Calls Try.prog 6 #[.int .i64 n, v] w (Yes w) := by
  have hq := qPtr
  have hq2 := qPtrN
  go_enter Try.func6, Try.ntmps6
  go_wp2_with fail
  refine (dev_new_bad n h _).mono ?_
  rintro e w1 ⟨rfl, rfl⟩
  go_wp2_with fail
  refine (ref_new_bad n h _).mono ?_
  rintro e w2 ⟨rfl, hb2⟩
  have HB2 := Lib.hid hb2; clear hb2
  go_wp2_with fail
  refine (dev_new 1 (by omega) (by omega) _).mono ?_
  rintro e w3 ⟨d, m, rfl, hb3, hd, hm, hd', hm', hD⟩
  have HB3 := Lib.hid hb3; have HD := Lib.hid (hD (fun k => k < w3.heap.size) hd' hm' (fun _ h => h)); clear hb3 hD
  go_wp2_with fail
  refine (dev_blocks HD.out).mono ?_
  rintro e w4 ⟨rfl, rfl⟩
  go_wp2_with fail
  go_ret
  refine ⟨rfl, ?_⟩
  have s2 := HB2.out.size
  exact ((HB2.out.alloc (by omega) _).trans (HB3.out.mono (by simp; omega)))

/-- What holds between two steps. -/
def PlayRel (w w1 w2 : World) (d m n : Nat) (wr : World) : Prop :=
  ∃ left bl rb cap t, DevAt wr (fun k => k < w2.heap.size + 1) d m n left bl ∧ left ≤ 9223372036854775807 ∧ wr.heap[w2.heap.size]? = some (.cells #[.slice (some ⟨rb, 0, none⟩) bl.length cap, .int .i64 left] t (0, 0)) ∧
    Strs wr rb bl ∧ w1.heap.size ≤ rb ∧ rb < wr.heap.size ∧ rb ≠ w2.heap.size ∧ Below w.heap.size w wr ∧ w2.heap.size + 1 ≤ wr.heap.size

theorem play_next {w w1 w2 w5 w6 : World} {d m n : Nat} {left : Int} {bl : List ByteArray} {x0 x1 : Value} {t : TypeId} {rb cap : Nat} (hd : d < w1.heap.size) (hm : m < w1.heap.size) (h12 : w1.heap.size ≤ w2.heap.size) (h02 : w.heap.size ≤ w2.heap.size)
    (hD : DevAt w5 (fun k => k < w2.heap.size + 1) d m n left bl) (hl : left ≤ 9223372036854775807) (hb : Below w5.heap.size w5 w6) (hrv : w5.heap[w2.heap.size]? = some (.cells #[x0, x1] t (0, 0)))
    (hst : Strs w6 rb bl) (hrb : w1.heap.size ≤ rb) (hrb' : rb < w6.heap.size) (hne : rb ≠ w2.heap.size) (hbel : Below w.heap.size w w5) :
    PlayRel w w1 w2 d m n ((w6.setCell ⟨w2.heap.size, 0, none⟩ (.slice (some ⟨rb, 0, none⟩) bl.length cap)).setCell ⟨w2.heap.size, 1, none⟩ (.int .i64 left)) := by
  have h6 := (hb.block _ (blk_lt hrv)).trans hrv
  have t1 : Touch (fun k => k = w2.heap.size) w5 ((w6.setCell ⟨w2.heap.size, 0, none⟩ (.slice (some ⟨rb, 0, none⟩) bl.length cap)).setCell ⟨w2.heap.size, 1, none⟩ (.int .i64 left)) :=
    Touch.setCell (F := fun k => k = w2.heap.size) (Touch.setCell (F := fun k => k = w2.heap.size) (Touch.of_below hb _) (.inl rfl) _) (.inl rfl) _
  refine ⟨left, bl, rb, cap, t, hD.keep t1 (fun k h => by omega) (by omega) (by omega), hl, ?_, strs_block hst ?_, hrb, ?_, hne, ?_, ?_⟩
  · have := blk_setCell (blk_setCell h6 0 (.slice (some ⟨rb, 0, none⟩) bl.length cap)) 1 (.int .i64 left)
    simpa using this
  · rw [blk_setCell_ne (by simp; omega), blk_setCell_ne (by simp; omega)]
  · simpa [World.setCell] using hrb'
  · exact ((hbel.trans (hb.mono hbel.size)).setCell h02 _).setCell h02 _
  · have := blk_lt h6; simp [World.setCell]; omega

theorem PlayRel.alloc {w w1 w2 : World} {d m n : Nat} {wr : World} (h : PlayRel w w1 w2 d m n wr) (o : Obj) : PlayRel w w1 w2 d m n (wr.alloc o) := by
  obtain ⟨left, bl, rb, cap, t, h1, h2, h3, h4, h5, h6, h7, h8, h9⟩ := h
  exact ⟨left, bl, rb, cap, t, h1.keep ((Touch.refl (fun _ => False) wr).alloc _) (fun _ h => h.elim) (fun h => h) (fun h => h), h2, blk_alloc_old h3 _, strs_block h4 (Below.heap_alloc _ _ rb h6), h5, by simp; omega, h7, h8.alloc h8.size _, by simp; omega⟩

/-- The step's own variable: where it lies, and that it stays. -/
def VarAt (w : World) (b : Nat) (kd nn at_ : Int) (u : UInt8) (v : Value) : Prop :=
  ∃ t, w.heap[b]? = some (.cells #[.int .i64 kd, .int .i64 nn, .int .i64 at_, .int .u8 (u.toNat : Int), v] t (0, 0))
theorem VarAt.cells {w : World} {b : Nat} {kd nn at_ : Int} {u : UInt8} {v : Value} (h : VarAt w b kd nn at_ u v) :
    w.cell? ⟨b, 0, none⟩ = some (.int .i64 kd) ∧ w.cell? ⟨b, 1, none⟩ = some (.int .i64 nn) ∧ w.cell? ⟨b, 2, none⟩ = some (.int .i64 at_) ∧ w.cell? ⟨b, 3, none⟩ = some (.int .u8 (u.toNat : Int)) ∧ w.cell? ⟨b, 4, none⟩ = some v := by
  obtain ⟨t, h⟩ := h
  refine ⟨?_, ?_, ?_, ?_, ?_⟩ <;> (rw [cell_of_blk h]; rfl)
theorem VarAt.block {w w' : World} {b : Nat} {kd nn at_ : Int} {u : UInt8} {v : Value} (h : VarAt w b kd nn at_ u v) (e : w'.heap[b]? = w.heap[b]?) : VarAt w' b kd nn at_ u v := by
  obtain ⟨t, h⟩ := h; exact ⟨t, e.trans h⟩
theorem VarAt.lt {w : World} {b : Nat} {kd nn at_ : Int} {u : UInt8} {v : Value} (h : VarAt w b kd nn at_ u v) : b < w.heap.size := by
  obtain ⟨t, h⟩ := h; exact blk_lt h

theorem strs_ne {w : World} {b c : Nat} {bl : List ByteArray} (h : Strs w b bl) (hl : 0 < bl.length) {a : Option Addr} {n k : Nat} {x : Value} {t : TypeId} (hc : w.heap[c]? = some (.cells #[.slice a n k, x] t (0, 0))) : b ≠ c := by
  intro e
  subst e
  have h0 := h 0 bl[0] (List.getElem?_eq_getElem hl)
  rw [cell_of_blk hc] at h0
  simp at h0

/-- What holds inside a step. -/
structure Mid (w w1 w2 wr : World) (d m n : Nat) (left left0 : Int) (bl bl0 : List ByteArray) (rb rcap : Nat) (t : TypeId) (kd nn at_ : Int) (u : UInt8) (v : Value) (wx : World) : Prop where
  dev : DevAt wx (fun k => k < w2.heap.size + 1) d m n left bl
  rv : wx.heap[w2.heap.size]? = some (.cells #[.slice (some ⟨rb, 0, none⟩) bl0.length rcap, .int .i64 left0] t (0, 0))
  st : Strs wx rb bl0
  rb1 : w1.heap.size ≤ rb
  rb2 : rb < wx.heap.size
  rb3 : rb ≠ w2.heap.size
  var : VarAt wx wr.heap.size kd nn at_ u v
  bel : Below w.heap.size w wx
  d1 : d < w1.heap.size
  m1 : m < w1.heap.size
  d0 : w.heap.size ≤ d
  m0 : w.heap.size ≤ m
  s12 : w1.heap.size ≤ w2.heap.size
  s2r : w2.heap.size + 1 ≤ wr.heap.size

theorem Mid.step {w w1 w2 wr : World} {d m n : Nat} {left left0 : Int} {bl bl0 : List ByteArray} {rb rcap : Nat} {t : TypeId} {kd nn at_ : Int} {u : UInt8} {v : Value} {wx wy : World}
    (h : Mid w w1 w2 wr d m n left left0 bl bl0 rb rcap t kd nn at_ u v wx) (tc : Touch (fun i => i = d ∨ i = m) wx wy) {left' : Int} {bl' : List ByteArray} (hD : DevAt wy (fun k => k < w2.heap.size + 1) d m n left' bl') :
    Mid w w1 w2 wr d m n left' left0 bl' bl0 rb rcap t kd nn at_ u v wy := by
  have hd := h.d1; have hm := h.m1; have h12 := h.s12; have h2r := h.s2r; have hr := h.rb1; have h0d := h.d0; have h0m := h.m0; have hs := h.bel.size
  refine ⟨hD, tc.keep h.rv (by omega), strs_block h.st (tc.block rb h.rb2 (by omega)), h.rb1, Nat.lt_of_lt_of_le h.rb2 tc.size, h.rb3, h.var.block (tc.block _ h.var.lt (by omega)), ?_, h.d1, h.m1, h.d0, h.m0, h.s12, h.s2r⟩
  exact h.bel.trans ⟨tc.os, tc.tape, tc.output, tc.size, fun k hk => tc.block k (by omega) (by omega)⟩

theorem Mid.cells {w w1 w2 wr : World} {d m n : Nat} {left left0 : Int} {bl bl0 : List ByteArray} {rb rcap : Nat} {t : TypeId} {kd nn at_ : Int} {u : UInt8} {v : Value} {wx : World}
    (h : Mid w w1 w2 wr d m n left left0 bl bl0 rb rcap t kd nn at_ u v wx) :
    wx.cell? ⟨w2.heap.size, 0, none⟩ = some (.slice (some ⟨rb, 0, none⟩) bl0.length rcap) ∧ wx.cell? ⟨w2.heap.size, 1, none⟩ = some (.int .i64 left0) ∧ wx.frozen? ⟨w2.heap.size, 0, none⟩ = false ∧ wx.frozen? ⟨w2.heap.size, 1, none⟩ = false := by
  refine ⟨?_, ?_, free_of_blk h.rv 0, free_of_blk h.rv 1⟩ <;> (rw [cell_of_blk h.rv]; rfl)

theorem mid_play {w w1 w2 wr : World} {d m n : Nat} {left : Int} {bl : List ByteArray} {rb rcap : Nat} {t : TypeId} {kd nn at_ : Int} {u : UInt8} {v : Value} {wx : World}
    (h : Mid w w1 w2 wr d m n left left bl bl rb rcap t kd nn at_ u v wx) (hl : left ≤ 9223372036854775807) : PlayRel w w1 w2 d m n wx :=
  ⟨left, bl, rb, rcap, t, h.dev, hl, h.rv, h.st, h.rb1, h.rb2, h.rb3, h.bel, by have := blk_lt h.rv; omega⟩

theorem play_fail {w w1 w2 wr : World} {d m n : Nat} {left0 l : Int} {bl : List ByteArray} {rb rcap : Nat} {t : TypeId} {kd nn at_ : Int} {u : UInt8} {v : Value} {wx : World}
    (h : Mid w w1 w2 wr d m n l left0 bl bl rb rcap t kd nn at_ u v wx) (hl : l ≤ 9223372036854775807) : PlayRel w w1 w2 d m n (wx.setCell ⟨w2.heap.size, 1, none⟩ (.int .i64 l)) := by
  have hd := h.d1; have hm := h.m1; have h12 := h.s12; have h0d := h.d0
  have t1 : Touch (fun k => k = w2.heap.size) wx (wx.setCell ⟨w2.heap.size, 1, none⟩ (.int .i64 l)) := Touch.setCell (F := fun k => k = w2.heap.size) (Touch.refl _ _) (.inl rfl) _
  refine ⟨l, bl, rb, rcap, t, h.dev.keep t1 (fun k h => by omega) (by omega) (by omega), hl, ?_, strs_block h.st (blk_setCell_ne h.rb3 _), h.rb1, by simpa [World.setCell] using h.rb2, h.rb3, h.bel.setCell (by simp; omega) _, ?_⟩
  · have := blk_setCell h.rv 1 (.int .i64 l)
    simpa using this
  · have := blk_lt h.rv; simp [World.setCell]; omega

set_option maxHeartbeats 4000000 in
theorem walk_ok (n : Nat) (h1 : 1 ≤ n) (h2 : n ≤ 64) (v : Value) (w : World) (hv : ActsAt w v) : Calls Try.prog 6 #[.int .i64 n, v] w (Yes w) := by
  obtain ⟨a, len, cap, rfl, hlen, hacts⟩ := hv
  unfold maxLen at hlen
  have HA := Lib.hid hacts; clear hacts
  go_enter Try.func6, Try.ntmps6
  go_wp2_with fail
  refine (dev_new n h1 h2 _).mono ?_
  rintro e w1 ⟨d, m, rfl, hb1, hd, hm, hd', hm', hD⟩
  have HB1 := Lib.hid hb1; have HD := Lib.hid (hD (fun k => k < w1.heap.size) hd' hm' (fun _ h => h)); clear hb1 hD
  go_wp2_with fail
  refine (ref_new_ok n h1 h2 _).mono ?_
  rintro e w2 ⟨rv0, rfl, ⟨rb, rcap, rfl, hst, hrb, hrb'⟩, hb2⟩
  have HB2 := Lib.hid hb2; have HST := Lib.hid hst; clear hb2 hst
  have s1 := HB1.out.size
  have s2 := HB2.out.size
  go_wp2_with fail
  go_loopw [11] (fun i wr => ∃ k : Nat, k ≤ len ∧ i = .int .i64 k ∧ PlayRel w w1 w2 d m n wr) (fun i _ => len - (RowKit.intOf i).toNat)
  case atStart =>
    refine ⟨0, by omega, rfl, 0, List.replicate n zeros4096, rb, rcap, 61, ?_, by omega, by rw [List.length_replicate]; exact blk_alloc_new w2 _, strs_block HST.out (Below.heap_alloc _ _ rb hrb'), hrb, by simp; omega, by omega, ?_, by simp⟩
    · exact HD.out.grow ((Touch.of_below HB2.out (fun _ => False)).alloc _) (fun b h => by simp; omega) (fun b h _ => h) (by omega) (by omega)
    · exact (HB1.out.trans (HB2.out.mono s1)).alloc (by omega) _
  case round =>
    obtain ⟨k, hk, rfl, left, bl, rb, rcap, t, hD, hl, hrv, hst, hrb, hrb', hne, hbel, hsz⟩ := hrel
    have hbl := hD.len
    have HDW := Lib.hid hD; have HRV := Lib.hid hrv; have HSTR := Lib.hid hst; have HBE := Lib.hid hbel; have HBL := Lib.hid hbl; have HRI := Lib.hid hl
    clear hD hrv hst hbel hbl hl HD HB1 HB2 HST
    by_cases hlt : k < len ∧ k < 40
    · obtain ⟨hlt, hlt40⟩ := hlt
      obtain ⟨ab, ao, rfl, hall⟩ := HA.out (by omega)
      obtain ⟨kd, nn, at_, u, rv, s, hact⟩ := hall k hlt
      have HACT := Lib.hid hact
      obtain ⟨k0, k1, k2, k3, k4, hraw, hnn⟩ := hact.below HBE.out
      have HRAW := Lib.hid hraw; have HN := Lib.hid hnn
      obtain ⟨ra, rc, rfl, _⟩ := hraw
      clear hact hall HA hnn
      have hmid : Mid w w1 w2 wr d m n left left bl bl rb rcap t kd nn at_ u (.slice ra s.size rc) (wr.alloc (.cells #[.int .i64 kd, .int .i64 nn, .int .i64 at_, .int .u8 (u.toNat : Int), .slice ra s.size rc] 52)) :=
        ⟨HDW.out.keep ((Touch.refl (fun _ => False) wr).alloc _) (fun _ h => h.elim) (fun h => h) (fun h => h), blk_alloc_old HRV.out _, strs_block HSTR.out (Below.heap_alloc _ _ rb hrb'), hrb, by simp; omega, hne, ⟨_, blk_alloc_new wr _⟩, HBE.out.alloc HBE.out.size _, hd', hm', hd, hm, s2, hsz⟩
      have HM := Lib.hid hmid
      clear hmid HDW HRV HSTR
      have l0 := HM.out.var.lt
      by_cases q0 : kd = 0
      · subst q0
        go_wp2_with fail
        refine (full_any 0 nn at_ u _ _ _ _).mono ?_
        rintro e w4 ⟨r1, rfl, hy, hb4, hr1, hr1'⟩
        have HY := Lib.hid hy
        have HM4 := Lib.hid (HM.out.step (Touch.of_below hb4 _) (HM.out.dev.keep (Touch.of_below hb4 (fun _ => False)) (fun _ h => h.elim) (fun h => h) (fun h => h)))
        have hz4 := hb4.size
        clear hy hb4
        obtain ⟨x0, x1, x2, x3, x4⟩ := HM4.out.var.cells
        go_wp2_with fail
        refine (dev_write_all HM4.out.dev HRI.out nn _ (fullBytes u at_) ⟨some ⟨r1, 0, none⟩, 4096, by rw [full_size], fun _ => ⟨r1, 0, rfl, HY.out⟩⟩).mono ?_
        rintro e w5 ⟨rfl, hD5, ht5⟩
        have HM5 := Lib.hid (HM4.out.step ht5 hD5)
        have HY5 : Hid (RawIs w5 (.slice (some ⟨r1, 0, none⟩) 4096 4096) (fullBytes u at_)) := Lib.hid ⟨some ⟨r1, 0, none⟩, 4096, by rw [full_size], fun _ => ⟨r1, 0, rfl, bytes_block HY.out (ht5.block _ hr1' (by simp at hr1; omega))⟩⟩
        clear hD5 ht5 x0 x1 x2 x3 x4
        obtain ⟨y0, y1, y2, y3⟩ := HM5.out.cells
        obtain ⟨x0, x1, x2, x3, x4⟩ := HM5.out.var.cells
        have hcv := raw_conv HY5.out
        go_wp2_with fail
        refine (ref_write_n (L := w1.heap.size) (n := n) (left := left) (bl := bl) ⟨rb, rcap, rfl, HM5.out.st, hrb, HM5.out.rb2⟩ HBL.out (by have := HM5.out.bel.size; have := HM5.out.rb2; omega) h2 HRI.out nn (fullBytes u at_)).mono ?_
        rintro e w6 ⟨v6, rfl, ⟨rb6, cap6, rfl, hst6, hrb6, hrb6'⟩, hb6⟩
        have HM6 := Lib.hid (HM5.out.step (Touch.of_below hb6 _) (HM5.out.dev.keep (Touch.of_below hb6 (fun _ => False)) (fun _ h => h.elim) (fun h => h) (fun h => h)))
        have hne6 : rb6 ≠ w2.heap.size := strs_ne hst6 (by rw [wBl_length]; have := HBL.out; omega) HM6.out.rv
        have HST6 := Lib.hid hst6; have HB6 := Lib.hid hb6
        clear hst6 hb6 y0 y1 y2 y3 x0 x1 x2 x3 x4 hcv
        obtain ⟨y0, y1, y2, y3⟩ := HM6.out.cells
        go_wp2_with fail
        go_roundw
        case rel => exact ⟨k + 1, by omega, by go_num, play_next hd' hm' s2 (by omega) HM5.out.dev (sLeft_le _ _ HRI.out) HB6.out HM5.out.rv HST6.out hrb6 hrb6' hne6 HM5.out.bel⟩
        case measure => simp [RowKit.intOf]; omega
      · by_cases q1 : kd = 1
        · subst q1
          obtain ⟨x0, x1, x2, x3, x4⟩ := HM.out.var.cells
          go_wp2_with fail
          refine (dev_read_all HM.out.dev HRI.out nn).mono ?_
          rintro e w5 ⟨v5, rfl, hraw5, hD5, ht5⟩
          have HM5 := Lib.hid (HM.out.step ht5 hD5)
          have HR5 := Lib.hid hraw5
          obtain ⟨a5, c5, rfl, _⟩ := hraw5
          clear hD5 ht5 x0 x1 x2 x3 x4
          obtain ⟨y0, y1, y2, y3⟩ := HM5.out.cells
          obtain ⟨x0, x1, x2, x3, x4⟩ := HM5.out.var.cells
          go_wp2_with fail
          refine (ref_read_n (L := w1.heap.size) (n := n) (left := left) (bl := bl) ⟨rb, rcap, rfl, HM5.out.st, hrb, HM5.out.rb2⟩ HBL.out HRI.out nn).mono ?_
          rintro e w6 ⟨v6, rfl, ⟨rb6, cap6, rfl, hst6, hrb6, hrb6'⟩, hb6⟩
          have HM6 := Lib.hid (HM5.out.step (Touch.of_below hb6 _) (HM5.out.dev.keep (Touch.of_below hb6 (fun _ => False)) (fun _ h => h.elim) (fun h => h) (fun h => h)))
          have hne6 : rb6 ≠ w2.heap.size := strs_ne hst6 (by have := HBL.out; omega) HM6.out.rv
          have hcv := raw_conv (HR5.out.below (hb6.alloc hb6.size (.cells #[.slice (some ⟨rb6, 0, none⟩) bl.length cap6, .int .i64 (sLeft (rMay n nn) left)] 61)))
          have HST6 := Lib.hid hst6; have HB6 := Lib.hid hb6
          clear hst6 hb6 y0 y1 y2 y3 x0 x1 x2 x3 x4
          obtain ⟨y0, y1, y2, y3⟩ := HM6.out.cells
          have l2 := blk_lt HM6.out.rv
          go_wp2_with fail
          go_roundw
          case rel => exact ⟨k + 1, by omega, by go_num, (play_next hd' hm' s2 (by omega) HM5.out.dev (sLeft_le _ _ HRI.out) HB6.out HM5.out.rv HST6.out hrb6 hrb6' hne6 HM5.out.bel).alloc _⟩
          case measure => simp [RowKit.intOf]; omega
        · by_cases q2 : kd = 2
          · subst q2
            obtain ⟨x0, x1, x2, x3, x4⟩ := HM.out.var.cells
            go_wp2_with fail
            refine (dev_fail HM.out.dev nn).mono ?_
            rintro e w5 ⟨rfl, hw5⟩
            have HM5 := Lib.hid (HM.out.step (wy := w5) (by rw [← hw5]; exact Touch.setCell (F := fun i => i = d ∨ i = m) (Touch.refl _ _) (.inl (.inl rfl)) _) (by rw [← hw5]; exact HM.out.dev.failed nn))
            clear hw5 x0 x1 x2 x3 x4
            obtain ⟨y0, y1, y2, y3⟩ := HM5.out.cells
            obtain ⟨x0, x1, x2, x3, x4⟩ := HM5.out.var.cells
            go_wp2_with fail
            go_roundw
            case rel => exact ⟨k + 1, by omega, by go_num, play_fail HM5.out HN.out⟩
            case measure => simp [RowKit.intOf]; omega
          · by_cases q3 : kd = 3
            · subst q3
              obtain ⟨x0, x1, x2, x3, x4⟩ := HM.out.var.cells
              by_cases hbig : 9000 < s.size
              · have hb1 : decide ((9000 : Int) < (s.size : Int)) = true := by simp; omega
                go_wp2_with fail
                go_ret
                exact ⟨rfl, HM.out.bel⟩
              · have hb1 : decide ((9000 : Int) < (s.size : Int)) = false := by simp; omega
                go_wp2_with fail
                refine (dev_write_all HM.out.dev HRI.out nn _ s (HRAW.out.below ((Below.refl _ _).alloc (Nat.le_refl _) _))).mono ?_
                rintro e w5 ⟨rfl, hD5, ht5⟩
                have HM5 := Lib.hid (HM.out.step ht5 hD5)
                have hcv := raw_conv (HACT.out.2.2.2.2.2.1.below HM5.out.bel)
                clear hD5 ht5 x0 x1 x2 x3 x4
                obtain ⟨y0, y1, y2, y3⟩ := HM5.out.cells
                obtain ⟨x0, x1, x2, x3, x4⟩ := HM5.out.var.cells
                go_wp2_with fail
                refine (ref_write_n (L := w1.heap.size) (n := n) (left := left) (bl := bl) ⟨rb, rcap, rfl, HM5.out.st, hrb, HM5.out.rb2⟩ HBL.out (by have := HM5.out.bel.size; have := HM5.out.rb2; omega) h2 HRI.out nn s).mono ?_
                rintro e w6 ⟨v6, rfl, ⟨rb6, cap6, rfl, hst6, hrb6, hrb6'⟩, hb6⟩
                have HM6 := Lib.hid (HM5.out.step (Touch.of_below hb6 _) (HM5.out.dev.keep (Touch.of_below hb6 (fun _ => False)) (fun _ h => h.elim) (fun h => h) (fun h => h)))
                have hne6 : rb6 ≠ w2.heap.size := strs_ne hst6 (by rw [wBl_length]; have := HBL.out; omega) HM6.out.rv
                have HST6 := Lib.hid hst6; have HB6 := Lib.hid hb6
                clear hst6 hb6 y0 y1 y2 y3 x0 x1 x2 x3 x4 hcv
                obtain ⟨y0, y1, y2, y3⟩ := HM6.out.cells
                go_wp2_with fail
                go_roundw
                case rel => exact ⟨k + 1, by omega, by go_num, play_next hd' hm' s2 (by omega) HM5.out.dev (sLeft_le _ _ HRI.out) HB6.out HM5.out.rv HST6.out hrb6 hrb6' hne6 HM5.out.bel⟩
                case measure => simp [RowKit.intOf]; omega
            · have e0 : (kd == 0) = false := by simpa using q0
              have e1 : (kd == 1) = false := by simpa using q1
              have e2 : (kd == 2) = false := by simpa using q2
              have e3 : (kd == 3) = false := by simpa using q3
              go_wp2_with fail
              go_roundw
              case rel => exact ⟨k + 1, by omega, by go_num, mid_play HM.out HRI.out⟩
              case measure => simp [RowKit.intOf]; omega
    · by_cases hl2 : k < len
      · have hl3 : decide ((k : Int) < 40) = false := by simp; omega
        clear hlt
        go_wp2_with fail
        refine (dev_fail HDW.out 0).mono ?_
        rintro e w5 ⟨rfl, hw5⟩
        have HD5 : Hid (DevAt w5 (fun k => k < w2.heap.size + 1) d m n 0 bl) := Lib.hid (by rw [← hw5]; exact HDW.out.failed 0)
        have HB5 : Hid (Below w.heap.size w w5) := Lib.hid (by rw [← hw5]; exact HBE.out.setCell hd _)
        clear hw5
        go_wp2_with fail
        refine (dev_read HD5.out 0 (by omega) (by omega) (bl[0]'(by have := HBL.out; omega)) (List.getElem?_eq_getElem _)).mono ?_
        rintro e w6 ⟨p1, rfl, _, hb6, hp1, hp1'⟩
        have HB6 := Lib.hid hb6
        have HD6 : Hid (DevAt w6 (fun k => k < w2.heap.size + 1) d m n 0 bl) := Lib.hid (HD5.out.keep (Touch.of_below hb6 (fun _ => False)) (fun _ h => h.elim) (fun h => h) (fun h => h))
        clear hb6
        go_wp2_with fail
        refine (dev_blocks HD6.out).mono ?_
        rintro e w7 ⟨rfl, rfl⟩
        go_wp2_with fail
        go_ret
        exact ⟨rfl, HB5.out.trans (HB6.out.mono HB5.out.size)⟩
      · obtain rfl : k = len := by omega
        clear hlt
        go_wp2_with fail
        refine (dev_fail HDW.out 0).mono ?_
        rintro e w5 ⟨rfl, hw5⟩
        have HD5 : Hid (DevAt w5 (fun k => k < w2.heap.size + 1) d m n 0 bl) := Lib.hid (by rw [← hw5]; exact HDW.out.failed 0)
        have HB5 : Hid (Below w.heap.size w w5) := Lib.hid (by rw [← hw5]; exact HBE.out.setCell hd _)
        clear hw5
        go_wp2_with fail
        refine (dev_read HD5.out 0 (by omega) (by omega) (bl[0]'(by have := HBL.out; omega)) (List.getElem?_eq_getElem _)).mono ?_
        rintro e w6 ⟨p1, rfl, _, hb6, hp1, hp1'⟩
        have HB6 := Lib.hid hb6
        have HD6 : Hid (DevAt w6 (fun k => k < w2.heap.size + 1) d m n 0 bl) := Lib.hid (HD5.out.keep (Touch.of_below hb6 (fun _ => False)) (fun _ h => h.elim) (fun h => h) (fun h => h))
        clear hb6
        go_wp2_with fail
        refine (dev_blocks HD6.out).mono ?_
        rintro e w7 ⟨rfl, rfl⟩
        go_wp2_with fail
        go_ret
        exact ⟨rfl, HB5.out.trans (HB6.out.mono HB5.out.size)⟩

theorem walk (W : World) (n : Int) (wn : (Lit.int .i64 n).wf = true) (v : Value) (hv : ActsAt W v) : Calls Try.prog 6 #[.int .i64 n, v] W (Yes W) := by
  by_cases h : n < 1 ∨ 64 < n
  · exact walk_bad n h v W
  · obtain ⟨k, rfl⟩ := Int.eq_ofNat_of_zero_le (show 0 ≤ n by omega)
    exact walk_ok k (by omega) (by omega) v W hv

theorem raw_of_trod {H : Type} {enc : TypeId × Value → H} {W : World} {n : Nat} {v : Value} {y : DataW H × List MemPlace} (h : DataW.trod enc Try.prog W 0 (fun _ => true) true n 31 [v] = some y) : ∃ s, RawIs W v s := by
  rcases open_ints Try.underlying31 Try.underlying5 (by kernel_rfl) h with ⟨hcs, _⟩ | ⟨a, len, cap, zs, hcs, _, hl, hm, hz, _, hcell, hwz⟩
  · simp at hcs; subst hcs
    exact ⟨⟨#[]⟩, none, 0, rfl, fun h => by simp [ByteArray.size] at h⟩
  · simp at hcs; subst hcs
    simp only [if_true] at hz
    refine ⟨strOfNums (zs.take len), some a, cap, by rw [strOfNums_size, List.length_take, hz, Nat.min_eq_left hl], fun hp => ?_⟩
    rw [strOfNums_size, List.length_take, hz, Nat.min_eq_left hl] at hp
    obtain ⟨b, o, spot⟩ := a
    have hs : spot = none := by simpa [Addr.add] using World.cell?_spot (hcell 0 (by omega))
    subst hs
    refine ⟨b, o, rfl, bytes_of_nums (n := len) (by rw [List.length_take, hz, Nat.min_eq_left hl]) ?_ ?_⟩
    · intro x hx
      have := hwz x (List.mem_of_mem_take hx)
      have hm : IntKind.u8.min = 0 := rfl
      have hM : IntKind.u8.max = 255 := rfl
      simp [Lit.wf] at this
      omega
    · intro i hi
      have := hcell i (by omega)
      rw [WideShapes.add_plain] at this
      rw [this, List.getD_eq_getElem?_getD, List.getD_eq_getElem?_getD, List.getElem?_take_of_lt hi]

theorem acts_of_trod {H : Type} {enc : TypeId × Value → H} {W : World} {base : Nat} {v : Value} {y : DataW H} {ps : List MemPlace} (hok : Value.okWide Try.prog W .any base 58 v)
    (h : DataW.Trod enc Try.prog W 0 (fun _ => true) true 58 v y ps) : ActsAt W v := by
  obtain ⟨a0, l0, c0, rfl⟩ := okWide_slice Try.underlying58 hok
  obtain ⟨fuel, hf⟩ := h
  rcases Deep.open_slice Try.underlying58 hf with ⟨hcs, _⟩ | ⟨a, len, cap, m, n, D, Pl, hcs, _, hl, hm, hmm, _, hx⟩
  · simp [Value.cells] at hcs
    obtain ⟨rfl, rfl, rfl⟩ := hcs
    exact ⟨none, 0, 0, rfl, by unfold maxLen; omega, fun h => by omega⟩
  · simp [Value.cells] at hcs
    obtain ⟨rfl, rfl, rfl⟩ := hcs
    simp only [if_true] at hmm
    subst hmm
    have hc5 : Try.prog.cellsOf 52 = 5 := by kernel_rfl
    rw [hc5] at hx
    refine ⟨some a, _, _, rfl, by omega, fun hp => ?_⟩
    obtain ⟨b, o, spot⟩ := a
    have hs : spot = none := by
      obtain ⟨cs', h1, _⟩ := hx 0 (by omega)
      obtain ⟨_, hlen, hcell⟩ := World.cells?_some h1
      have := hcell 0 (by omega)
      rw [List.getElem?_eq_getElem (by omega)] at this
      simpa [Addr.add] using World.cell?_spot this
    subst hs
    refine ⟨b, o, rfl, fun i hi => ?_⟩
    obtain ⟨cs', h1, h2⟩ := hx i (by omega)
    obtain ⟨_, hlen, hcell⟩ := World.cells?_some h1
    obtain ⟨xs, k, _, _, _, hxl, hfield⟩ := DataW.trod_struct Try.underlying52 h2
    obtain ⟨c0, c1, c2, c3, c4, rfl⟩ : ∃ c0 c1 c2 c3 c4, cs' = [c0, c1, c2, c3, c4] := by
      match cs', hlen with
      | [c0, c1, c2, c3, c4], _ => exact ⟨_, _, _, _, _, rfl⟩
    obtain ⟨x0, x1, x2, x3, x4, rfl⟩ : ∃ x0 x1 x2 x3 x4, xs = [x0, x1, x2, x3, x4] := by
      match xs, hxl with
      | [x0, x1, x2, x3, x4], _ => exact ⟨_, _, _, _, _, rfl⟩
    have f0 := hfield 0 _ rfl
    have f1 := hfield 1 _ rfl
    have f2 := hfield 2 _ rfl
    have f3 := hfield 3 _ rfl
    have f4 := hfield 4 _ rfl
    have g0 : DataW.trod enc Try.prog W 0 (fun _ => true) true k 3 [c0] = some x0 := f0
    have g1 : DataW.trod enc Try.prog W 0 (fun _ => true) true k 3 [c1] = some x1 := f1
    have g2 : DataW.trod enc Try.prog W 0 (fun _ => true) true k 3 [c2] = some x2 := f2
    have g3 : DataW.trod enc Try.prog W 0 (fun _ => true) true k 5 [c3] = some x3 := f3
    have g4 : DataW.trod enc Try.prog W 0 (fun _ => true) true k 31 [c4] = some x4 := f4
    obtain ⟨kd, e0, _, _⟩ := DataW.trod_int Try.underlying3 g0
    obtain ⟨nn, e1, _, w1⟩ := DataW.trod_int Try.underlying3 g1
    obtain ⟨at_, e2, _, _⟩ := DataW.trod_int Try.underlying3 g2
    obtain ⟨bb, e3, _, w3⟩ := DataW.trod_int Try.underlying5 g3
    obtain ⟨s, hraw⟩ := raw_of_trod g4
    simp at e0 e1 e2 e3
    subst e0; subst e1; subst e2; subst e3
    obtain ⟨u, rfl⟩ := byte_of w3
    have hn : nn ≤ 9223372036854775807 := by
      have hM : IntKind.i64.max = 9223372036854775807 := rfl
      simp [Lit.wf] at w1; omega
    have cell : ∀ j, j < 5 → W.cell? ⟨b, o + i * 5 + j, none⟩ = [Value.int .i64 kd, .int .i64 nn, .int .i64 at_, .int .u8 (u.toNat : Int), c4][j]? := fun j hj => by
      have := hcell j hj
      rw [WideShapes.add_plain, WideShapes.add_plain] at this
      exact this
    exact ⟨kd, nn, at_, u, c4, s, cell 0 (by omega), cell 1 (by omega), cell 2 (by omega), cell 3 (by omega), cell 4 (by omega), hraw, hn⟩

theorem own : ownKnob Try.prog.godebug = none := by kernel_rfl
theorem laidOut : laidOutB Try.prog = true := by kernel_rfl
set_option maxRecDepth 100000 in
theorem lifted (os : Os) (started : os.Started) (H : Type) (enc : TypeId × Value → H) :
    ReturnsInHanded {} Try.checked os 6 .any (Rows.blockPlaysSpec.pre6 enc Try.prog Try.f6 Rows.blockPlaysRow.domain false) (Rows.blockPlaysSpec.post enc Try.prog Try.f6 false true false false) := by
  refine returnsInHanded_of_change (C := Try.checked) own started (by kernel_rfl) Try.func6
    (ChangeSpec.witness6 (enc := enc) (C := Try.checked) false ⟨#[], #[.int .i64 0, .slice none 0 0], []⟩ 8 (by kernel_rfl) (by kernel_rfl) (by kernel_rfl) (by kernel_rfl)) ?_
  intro W base args ds gs before hval0 hW hcnd _
  have hval : ∀ (j : Nat) t v, Try.f6.params[j]? = some t → args[j]? = some v → Value.okWide Try.prog W .any base t v := hval0
  have hW' := hW
  obtain ⟨p, q, hA0, hV, rfl, hfz, hnd⟩ := hW
  have hA : DataW.TrodAll enc Try.prog W 0 (fun _ => true) true Try.f6.params.toList args.toList ds p := hA0
  rw [Try.params6] at hA hval
  obtain ⟨v0, vs0, d0, ds0, p0, q0, hargs, rfl, rfl, h0, r0⟩ := trodAll_cons hA
  obtain ⟨v1, vs1, d1, ds1, p1, q1, rfl, rfl, rfl, h1, r1⟩ := trodAll_cons r0
  obtain ⟨rfl, rfl, rfl⟩ := trodAll_nil r1
  obtain rfl : args = #[v0, v1] := by cases args; simp_all
  obtain ⟨rfl, rfl⟩ := trodVars_none hV
  obtain ⟨a0, rfl, rfl, rfl, w0⟩ := open_int Try.underlying3 (hval 0 3 v0 rfl rfl) h0
  have k1 := h1
  have lt1 : ∀ x ∈ p1, x.block < W.heap.size := by obtain ⟨m, hm⟩ := k1; exact DataW.trod_lt m _ _ _ hm
  have okv1 := (hval 1 58 v1 rfl rfl)
  clear hA0 hval0
  refine (walk W a0 w0 v1 (acts_of_trod okv1 k1)).mono fun e W' ⟨he, bel⟩ => ?_
  subst he
  exact ⟨_, rfl, _, _, _, [], _, [], hW', trodAll_mk1 (shut_bool Try.underlying4 _), (trodAll_cons_mk (shut_int Try.underlying3 w0) (trodAll_cons_mk (Below.trod laidOut (by kernel_rfl) (of_decide_eq_true (by kernel_rfl)) k1 bel lt1) trodAll_mk0)), rfl, bel.frame _, fun h => by cases h⟩

theorem over : Rows.blockPlaysRow.holds Try.pinned (OpenSpec.ofChange Rows.blockPlaysSpec) :=
  OpenClaim.holds_of_wide 6 Try.f6 rfl rfl rfl rfl rfl rfl rfl ⟨rfl, rfl, rfl, rfl, rfl⟩ rfl rfl rfl rfl rfl (by kernel_rfl) Try.func6 (by kernel_rfl)
    (of_decide_eq_true (by kernel_rfl)) (by unfold Func.isWrapper; first | (rw [if_pos (by decide +kernel)]; kernel_rfl) | (rw [if_neg (by decide +kernel)]; exact ⟨rfl, rfl⟩))
    (fun os started H enc _ => lifted os started H enc)

theorem proved : Rows.BlockPlaysSaid := over

end Go.Proofs.Ytcdfidojddlgpaa.blockPlays
namespace Go.Proofs.Ytcdfidojddlgpaa
theorem blockPlays_holds : Rows.BlockPlaysSaid := blockPlays.proved
end Go.Proofs.Ytcdfidojddlgpaa
