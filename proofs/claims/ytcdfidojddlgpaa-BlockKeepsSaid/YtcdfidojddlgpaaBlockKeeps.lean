/- What was written last into a block of a device is read of it, and of no other one; just as many calls fail as are to, and these change nothing. For every two bytes and every number. No condition. -/
import Derived.Test.YtcdfidojddlgpaaRows
import Derived.Test.YtcdfidojddlgpaaFull
import Derived.OpenShut
import Derived.BigRegion
namespace Go.Proofs.Ytcdfidojddlgpaa.blockKeeps
set_option maxRecDepth 100000
open Go Go.RowKit Go.ChangeMaps Go.Lib Go.Proofs.Ytcdfidojddlgpaa Go.ChangeShapes Go.WideShapes Go.ChangeAt
set_option linter.unusedVariables false

theorem qPtr (w : World) (a : Addr) : (binOp .eql 46 (.pointer (some a)) (.pointer none)).run Try.prog w = .ok (.bool false) w := by kernel_rfl

/-- What holds while calls fail. -/
def Failing (w : World) (X : Nat → Prop) (d m r1 r2 : Nat) (left : Int) (x y : ByteArray) (wr : World) : Prop :=
  DevAt wr X d m 3 left [x, zeros4096, y] ∧ Bytes wr r1 0 x ∧ Bytes wr r2 0 y ∧ r1 ≠ d ∧ r2 ≠ d ∧ r1 < wr.heap.size ∧ r2 < wr.heap.size ∧ w.heap.size ≤ d ∧ Below w.heap.size w wr

theorem Failing.step {w : World} {X : Nat → Prop} {d m r1 r2 : Nat} {left : Int} {x y : ByteArray} {wr : World} (h : Failing w X d m r1 r2 left x y wr) (l : Int) :
    Failing w X d m r1 r2 l x y (wr.setCell ⟨d, 2, none⟩ (.int .i64 l)) := by
  obtain ⟨h1, h2, h3, h4, h5, h6, h7, h8, h9⟩ := h
  refine ⟨h1.failed l, bytes_block h2 (blk_setCell_ne h4 _), bytes_block h3 (blk_setCell_ne h5 _), h4, h5, by simpa [World.setCell] using h6, by simpa [World.setCell] using h7, h8, h9.setCell h8 _⟩

/-- The law's answer. -/
def Yes (w : World) (e : Ending) (w' : World) : Prop := e = .returned (.bool true) ∧ Below w.heap.size w w'

theorem convB (w : World) (b : Nat) (s : ByteArray) (hs : s.size = 4096) (h : Bytes w b 0 s) (cap : Nat) : (convert 31 9 (.slice (some ⟨b, 0, none⟩) 4096 cap)).run Try.prog w = .ok (.string s) w := by
  have := run_convert_whole (P := Try.prog) w 31 5 9 Try.underlying31 Try.underlying5 Try.underlying9 b 0 s h cap
  rw [hs] at this; exact this

set_option maxHeartbeats 4000000 in
theorem walk (a b : UInt8) (n : Int) (w : World) :
    Calls Try.prog 5 #[.int .u8 (a.toNat : Int), .int .u8 (b.toNat : Int), .int .i64 n] w (Yes w) := by
  have hq := qPtr
  have hn := i64_and7 n
  obtain ⟨c, hc, hc8⟩ : ∃ c : Nat, n % 8 = c ∧ c < 8 := ⟨(n % 8).toNat, by omega, by omega⟩
  rw [hc] at hn
  clear hc
  go_enter Try.func5, Try.ntmps5
  go_wp2_with fail
  refine (dev_new 3 (by omega) (by omega) _).mono ?_
  rintro e w1 ⟨d, m, rfl, hb1, hd, hm, hd', hm', hD⟩
  have HD1 : Hid (DevAt w1 (fun k => k < w1.heap.size) d m 3 0 (List.replicate 3 zeros4096)) := Lib.hid (hD _ hd' hm' (fun _ h => h))
  have HB1 := Lib.hid hb1
  clear hD hb1
  go_wp2_with fail
  refine (full_any 0 0 0 a none 0 0 _).mono ?_
  rintro e w2 ⟨r1, rfl, hy1, hb2, hr1, hr1'⟩
  have HY1 := Lib.hid hy1; have HB2 := Lib.hid hb2
  clear hy1 hb2
  go_wp2_with fail
  refine (full_any 0 0 7 b none 0 0 _).mono ?_
  rintro e w3 ⟨r2, rfl, hy2, hb3, hr2, hr2'⟩
  have HY2 := Lib.hid hy2; have HB3 := Lib.hid hb3
  clear hy2 hb3
  have HT2 : Hid (Touch (fun _ => False) w1 w2) := Lib.hid (Touch.of_below HB2.out _)
  have HT3 : Hid (Touch (fun _ => False) w2 w3) := Lib.hid (Touch.of_below HB3.out _)
  have HD3 : Hid (DevAt w3 (fun k => k < w1.heap.size) d m 3 0 (List.replicate 3 zeros4096)) := Lib.hid ((HD1.out.keep HT2.out (fun _ h => h.elim) (fun h => h) (fun h => h)).keep HT3.out (fun _ h => h.elim) (fun h => h) (fun h => h))
  have HX3 : Hid (Bytes w3 r1 0 (fullBytes a 0)) := Lib.hid (bytes_block HY1.out (HB3.out.block _ hr1'))
  go_wp2_with fail
  refine (dev_write HD3.out 0 (by omega) (by omega) r1 0 4096 _ (full_size _ _) HX3.out).mono ?_
  rintro e w4 ⟨rfl, hD4, ht4⟩
  have HD4 := Lib.hid hD4; have HT4 := Lib.hid ht4
  clear hD4 ht4
  have HY4 : Hid (Bytes w4 r2 0 (fullBytes b 7)) := Lib.hid (bytes_block HY2.out (HT4.out.block _ hr2' (by have := HB2.out.size; omega)))
  go_wp2_with fail
  refine (dev_write HD4.out 2 (by omega) (by omega) r2 0 4096 _ (full_size _ _) HY4.out).mono ?_
  rintro e w5 ⟨rfl, hD5, ht5⟩
  have HD5 := Lib.hid hD5; have HT5 := Lib.hid ht5
  clear hD5 ht5
  go_wp2_with fail
  refine (dev_fail HD5.out _).mono ?_
  rintro e w6 ⟨rfl, rfl⟩
  have s12 := HB2.out.size
  have s23 := HB3.out.size
  have s34 := HT4.out.size
  have s45 := HT5.out.size
  have HF0 : Hid (Failing w (fun k => k < w1.heap.size) d m r1 r2 c (fullBytes a 0) (fullBytes b 7) (w5.setCell ⟨d, 2, none⟩ (.int .i64 c))) := by
    refine Lib.hid ⟨HD5.out.failed _, bytes_block HX3.out ?_, bytes_block HY4.out ?_, by omega, by omega, ?_, ?_, hd, ?_⟩
    · rw [blk_setCell_ne (by simp; omega), HT5.out.block r1 (by omega) (by omega), HT4.out.block r1 (by omega) (by omega)]
    · rw [blk_setCell_ne (by simp; omega), HT5.out.block r2 (by omega) (by omega)]
    · simp [World.setCell]; omega
    · simp [World.setCell]; omega
    · have t : Touch (fun i => i = d ∨ i = m) w1 (w5.setCell ⟨d, 2, none⟩ (.int .i64 c)) :=
        (((HT2.out.mono (fun _ _ h => h.elim)).trans HT3.out (fun _ _ h => h.elim)).trans HT4.out (fun _ _ h => .inr h)).trans HT5.out (fun _ _ h => .inr h) |>.setCell (.inl (.inl rfl)) _
      exact HB1.out.trans ⟨t.os, t.tape, t.output, t.size, fun k hk => t.block k (by have := HB1.out.size; omega) (by omega)⟩
  clear HD1 HB1 HY1 HB2 HY2 HB3 HT2 HT3 HD3 HX3 HD4 HT4 HY4 HD5 HT5
  go_wp2_with fail
  go_loopw [11] (fun i wr => ∃ k : Nat, k ≤ c ∧ i = .int .i64 k ∧ Failing w (fun k => k < w1.heap.size) d m r1 r2 ((c : Int) - k) (fullBytes a 0) (fullBytes b 7) wr) (fun i _ => c - (RowKit.intOf i).toNat)
  case atStart => exact ⟨0, by omega, rfl, by simpa using HF0.out⟩
  case round =>
    obtain ⟨k, hk, rfl, hF⟩ := hrel
    have HF := Lib.hid hF
    clear hF HF0
    by_cases hlt : k < c
    · have hp := i64_and1 (k : Int)
      by_cases hev : (k : Int) % 2 = 0
      · rw [hev] at hp
        have HE := Lib.hid hev
        clear hev
        go_wp2_with (go_at_call 18; refine (dev_write_fail HF.out.1 0 (by omega) (by omega) (by omega) (by omega) _ _).mono ?_; rintro e w7 ⟨rfl, rfl⟩)
        go_roundw
        case rel => exact ⟨k + 1, by omega, by go_num, by have := HF.out.step (c - k - 1); rw [show (c : Int) - ((k + 1 : Nat) : Int) = c - k - 1 by omega]; exact this⟩
        case measure => simp [RowKit.intOf]; omega
      · have hod : (k : Int) % 2 = 1 := by omega
        rw [hod] at hp
        have HE := Lib.hid hod
        clear hev hod
        go_wp2_with (go_at_call 20; refine (dev_read_fail HF.out.1 2 (by omega) (by omega) (by omega) (by omega)).mono ?_; rintro e w7 ⟨rfl, rfl⟩)
        go_roundw
        case rel => exact ⟨k + 1, by omega, by go_num, by have := HF.out.step (c - k - 1); rw [show (c : Int) - ((k + 1 : Nat) : Int) = c - k - 1 by omega]; exact this⟩
        case measure => simp [RowKit.intOf]; omega
    · obtain rfl : k = c := by omega
      have hs : (wr.heap.size ≤ wr.heap.size) := Nat.le_refl _
      go_wp2_with fail
      refine (dev_read HF.out.1 0 (by omega) (by omega) (fullBytes a 0) rfl).mono ?_
      rintro e w8 ⟨p1, rfl, hq1, hb8, hp1, hp1'⟩
      have HQ1 := Lib.hid hq1; have HB8 := Lib.hid hb8
      clear hq1 hb8
      have HD8 : Hid (DevAt w8 (fun k => k < w1.heap.size) d m 3 ((k : Int) - k) [fullBytes a 0, zeros4096, fullBytes b 7]) := Lib.hid (HF.out.1.keep (Touch.of_below HB8.out (fun _ => False)) (fun _ h => h.elim) (fun h => h) (fun h => h))
      go_wp2_with fail
      refine (dev_read HD8.out 2 (by omega) (by omega) (fullBytes b 7) rfl).mono ?_
      rintro e w9 ⟨p2, rfl, hq2, hb9, hp2, hp2'⟩
      have HQ2 := Lib.hid hq2; have HB9 := Lib.hid hb9
      clear hq2 hb9
      have HD9 : Hid (DevAt w9 (fun k => k < w1.heap.size) d m 3 ((k : Int) - k) [fullBytes a 0, zeros4096, fullBytes b 7]) := Lib.hid (HD8.out.keep (Touch.of_below HB9.out (fun _ => False)) (fun _ h => h.elim) (fun h => h) (fun h => h))
      go_wp2_with fail
      refine (dev_read HD9.out 1 (by omega) (by omega) zeros4096 rfl).mono ?_
      rintro e wa ⟨p3, rfl, hq3, hba, hp3, hp3'⟩
      have HQ3 := Lib.hid hq3; have HBA := Lib.hid hba
      clear hq3 hba
      have s8 := HB8.out.size
      have s9 := HB9.out.size
      have sa := HBA.out.size
      have hr1 := HF.out.2.2.2.2.2.1
      have hr2 := HF.out.2.2.2.2.2.2.1
      have k1 : ∀ W : World, W.heap[p1]? = wa.heap[p1]? → (convert 31 9 (.slice (some ⟨p1, 0, none⟩) 4096 4096)).run Try.prog W = .ok (.string (fullBytes a 0)) W := fun W e =>
        convB W p1 _ (full_size _ _) (bytes_block (bytes_block (bytes_block HQ1.out (HB9.out.block _ hp1')) (HBA.out.block _ (by omega))) e) _
      have k2 : ∀ W : World, W.heap[p2]? = wa.heap[p2]? → (convert 31 9 (.slice (some ⟨p2, 0, none⟩) 4096 4096)).run Try.prog W = .ok (.string (fullBytes b 7)) W := fun W e =>
        convB W p2 _ (full_size _ _) (bytes_block (bytes_block HQ2.out (HBA.out.block _ hp2')) e) _
      have k3 : ∀ W : World, W.heap[p3]? = wa.heap[p3]? → (convert 31 9 (.slice (some ⟨p3, 0, none⟩) 4096 4096)).run Try.prog W = .ok (.string zeros4096) W := fun W e =>
        convB W p3 _ zeros_size (bytes_block HQ3.out e) _
      have k4 : ∀ W : World, W.heap[r1]? = wa.heap[r1]? → (convert 31 9 (.slice (some ⟨r1, 0, none⟩) 4096 4096)).run Try.prog W = .ok (.string (fullBytes a 0)) W := fun W e =>
        convB W r1 _ (full_size _ _) (bytes_block (bytes_block (bytes_block (bytes_block HF.out.2.1 (HB8.out.block _ hr1)) (HB9.out.block _ (by omega))) (HBA.out.block _ (by omega))) e) _
      have k5 : ∀ W : World, W.heap[r2]? = wa.heap[r2]? → (convert 31 9 (.slice (some ⟨r2, 0, none⟩) 4096 4096)).run Try.prog W = .ok (.string (fullBytes b 7)) W := fun W e =>
        convB W r2 _ (full_size _ _) (bytes_block (bytes_block (bytes_block (bytes_block HF.out.2.2.1 (HB8.out.block _ hr2)) (HB9.out.block _ (by omega))) (HBA.out.block _ (by omega))) e) _
      have k6 : (convert 31 9 (.slice (some ⟨wa.heap.size, 0, none⟩) 4096 4096)).run Try.prog (wa.alloc (.cells zeroRow 5)).drew = .ok (.string zeros4096) (wa.alloc (.cells zeroRow 5)).drew :=
        convB (wa.alloc (.cells zeroRow 5)).drew wa.heap.size _ zeros_size (bytes_zeroRow (t := 5) (blk_alloc_new wa (.cells zeroRow 5) : (wa.alloc (.cells zeroRow 5)).drew.heap[wa.heap.size]? = _)) _
      have hmk := run_make4096
      have j1 := k1 wa.drew rfl
      have j2 := k2 wa.drew rfl
      have j3 := k3 wa.drew rfl
      have j4 := k4 wa.drew rfl
      have j5 := k5 wa.drew rfl
      have l3 := k3 (wa.alloc (.cells zeroRow 5)).drew (Below.heap_alloc _ _ _ (by omega))
      clear k1 k2 k3 k4 k5
      go_wp2_with fail
      go_region
      go_wp2
      go_ret
      refine ⟨rfl, ?_⟩
      have b1 := HF.out.2.2.2.2.2.2.2.2
      have b2 : Below w.heap.size wr w8 := HB8.out.mono b1.size
      have b3 : Below w.heap.size w8 w9 := HB9.out.mono (by have := b1.size; omega)
      have b4 : Below w.heap.size w9 wa := HBA.out.mono (by have := b1.size; omega)
      exact ((((b1.trans b2).trans b3).trans b4).alloc (by have := b1.size; omega) _).drew

theorem byte_of {x : Int} (h : (Lit.int .u8 x).wf = true) : ∃ u : UInt8, x = (u.toNat : Int) := by
  have hm : IntKind.u8.min = 0 := rfl
  have hM : IntKind.u8.max = 255 := rfl
  simp [Lit.wf] at h
  refine ⟨UInt8.ofNat x.toNat, ?_⟩
  rw [UInt8.toNat_ofNat_of_lt' (by show _ < 256; omega)]; omega

theorem own : ownKnob Try.prog.godebug = none := by kernel_rfl

set_option maxRecDepth 100000 in
theorem lifted (os : Os) (started : os.Started) (H : Type) (enc : TypeId × Value → H) :
    ReturnsInHanded {} Try.checked os 5 .any (Rows.blockKeepsSpec.pre6 enc Try.prog Try.f5 Rows.blockKeepsRow.domain false) (Rows.blockKeepsSpec.post enc Try.prog Try.f5 false true false false) := by
  refine returnsInHanded_of_change (C := Try.checked) own started (by kernel_rfl) Try.func5
    (ChangeSpec.witness6 (enc := enc) (C := Try.checked) false ⟨#[], #[.int .u8 0, .int .u8 0, .int .i64 0], []⟩ 8 (by kernel_rfl) (by kernel_rfl) (by kernel_rfl) (by kernel_rfl)) ?_
  intro W base args ds gs before hval0 hW hcnd _
  have hval : ∀ (j : Nat) t v, Try.f5.params[j]? = some t → args[j]? = some v → Value.okWide Try.prog W .any base t v := hval0
  have hW' := hW
  obtain ⟨p, q, hA0, hV, rfl, hfz, hnd⟩ := hW
  have hA : DataW.TrodAll enc Try.prog W 0 (fun _ => true) true Try.f5.params.toList args.toList ds p := hA0
  rw [Try.params5] at hA hval
  obtain ⟨v0, vs0, d0, ds0, p0, q0, hargs, rfl, rfl, h0, r0⟩ := trodAll_cons hA
  obtain ⟨v1, vs1, d1, ds1, p1, q1, rfl, rfl, rfl, h1, r1⟩ := trodAll_cons r0
  obtain ⟨v2, vs2, d2, ds2, p2, q2, rfl, rfl, rfl, h2, r2⟩ := trodAll_cons r1
  obtain ⟨rfl, rfl, rfl⟩ := trodAll_nil r2
  obtain rfl : args = #[v0, v1, v2] := by cases args; simp_all
  obtain ⟨rfl, rfl⟩ := trodVars_none hV
  obtain ⟨a0, rfl, rfl, rfl, w0⟩ := open_int Try.underlying5 (hval 0 5 v0 rfl rfl) h0
  obtain ⟨a1, rfl, rfl, rfl, w1⟩ := open_int Try.underlying5 (hval 1 5 v1 rfl rfl) h1
  obtain ⟨a2, rfl, rfl, rfl, w2⟩ := open_int Try.underlying3 (hval 2 3 v2 rfl rfl) h2
  clear hA0 hval0
  obtain ⟨u0, rfl⟩ := byte_of w0
  obtain ⟨u1, rfl⟩ := byte_of w1
  refine (walk u0 u1 a2 W).mono fun e W' ⟨he, bel⟩ => ?_
  subst he
  exact ⟨_, rfl, _, _, _, [], _, [], hW', trodAll_mk1 (shut_bool Try.underlying4 _), (trodAll_cons_mk (shut_int Try.underlying5 w0) (trodAll_cons_mk (shut_int Try.underlying5 w1) (trodAll_cons_mk (shut_int Try.underlying3 w2) trodAll_mk0))), rfl, bel.frame _, fun h => by cases h⟩

theorem over : Rows.blockKeepsRow.holds Try.pinned (OpenSpec.ofChange Rows.blockKeepsSpec) :=
  OpenClaim.holds_of_wide 5 Try.f5 rfl rfl rfl rfl rfl rfl rfl ⟨rfl, rfl, rfl, rfl, rfl⟩ rfl rfl rfl rfl rfl (by kernel_rfl) Try.func5 (by kernel_rfl)
    (of_decide_eq_true (by kernel_rfl)) (by unfold Func.isWrapper; first | (rw [if_pos (by decide +kernel)]; kernel_rfl) | (rw [if_neg (by decide +kernel)]; exact ⟨rfl, rfl⟩))
    (fun os started H enc _ => lifted os started H enc)

theorem proved : Rows.BlockKeepsSaid := over
end Go.Proofs.Ytcdfidojddlgpaa.blockKeeps
namespace Go.Proofs.Ytcdfidojddlgpaa
theorem blockKeeps_holds : Rows.BlockKeepsSaid := blockKeeps.proved
end Go.Proofs.Ytcdfidojddlgpaa
