/- Steps of bytes, by the document and by the program: contracts. -/
import Derived.Test.YtcdfidojddlgpaaKit
import Derived.Test.YtcdfidojddlgpaaChecked
import Derived.Lib.SlBytesRow
import Derived.Deep.AppendLies
import Derived.BigRegion
import Derived.Deep.DeepCutAuto
import Derived.Deep.CutBlock
import Derived.Outline
namespace Go.Proofs.Ytcdfidojddlgpaa
set_option maxRecDepth 100000
open Go Go.RowKit Go.ChangeMaps Go.Lib

theorem bytes_block {w w' : World} {b o : Nat} {s : ByteArray} (h : Bytes w b o s) (e : w'.heap[b]? = w.heap[b]?) : Bytes w' b o s := fun i hi => by
  rw [World.cell?_of_block (w := w) e]; exact h i hi

/-- A slice value is of these bytes. -/
def RawIs (w : World) (v : Value) (s : ByteArray) : Prop := ∃ a cap, v = .slice a s.size cap ∧ s.size ≤ cap ∧ cap ≤ 9223372036854775807 ∧ (0 < s.size → ∃ b o, a = some ⟨b, o, none⟩ ∧ Bytes w b o s)

theorem RawIs.touch {w w' : World} {v : Value} {s : ByteArray} (h : RawIs w v s) (t : Touch (fun _ => False) w w') : RawIs w' v s := by
  obtain ⟨a, cap, h1, h3, h5, h2⟩ := h
  refine ⟨a, cap, h1, h3, h5, fun hp => ?_⟩
  obtain ⟨bb, o, h3, h4⟩ := h2 hp
  exact ⟨bb, o, h3, bytes_block h4 (t.block _ (World.block_lt_of_cell? w _ (h4 0 hp)) (fun h => h))⟩

/-- A step: its kind, and two numbers. -/
abbrev Stp := Int × Int × Int
def byteAt (s : ByteArray) (i : Nat) : Int := ((s.data.toList.getD i 0).toNat : Int)
theorem byteAt_eq (s : ByteArray) (i : Nat) (h : i < s.size) : byteAt s i = (s[i].toNat : Int) := by
  have h' : i < s.data.toList.length := by simpa using h
  simp only [byteAt, List.getD_eq_getElem?_getD, List.getElem?_eq_getElem h', Option.getD_some]
  rfl
theorem byteAt_range (s : ByteArray) (i : Nat) : 0 ≤ byteAt s i ∧ byteAt s i ≤ 255 := by
  have := (s.data.toList.getD i 0).toNat_lt
  unfold byteAt; omega
def kindOf (x : Int) : Int := if 9 < x then 0 else x
def stepAt (s : ByteArray) (j : Nat) : Stp := (kindOf (byteAt s j), byteAt s (j + 1), byteAt s (j + 2))
/-- The steps of the bytes up to j. -/
def stepsTo (s : ByteArray) (j : Nat) : List Stp := (List.range (j / 3)).map fun k => stepAt s (3 * k)
def stepCells (x : Stp) : List Value := [.int .i64 x.1, .int .i64 x.2.1, .int .i64 x.2.2]
def stepsCells (l : List Stp) : List Value := l.flatMap stepCells
theorem stepsTo_snoc (s : ByteArray) (j : Nat) (h : j % 3 = 0) : stepsTo s (j + 3) = stepsTo s j ++ [stepAt s j] := by
  unfold stepsTo
  rw [show (j + 3) / 3 = j / 3 + 1 by omega, List.range_succ, List.map_append]
  simp only [List.map_cons, List.map_nil]
  rw [show 3 * (j / 3) = j by omega]
theorem stepsTo_length (s : ByteArray) (j : Nat) : (stepsTo s j).length = j / 3 := by simp [stepsTo]
theorem stepsCells_append (l m : List Stp) : stepsCells (l ++ m) = stepsCells l ++ stepsCells m := by simp [stepsCells]
theorem stepsCells_length (l : List Stp) : (stepsCells l).length = l.length * 3 := by
  induction l with
  | nil => rfl
  | cons x r ih =>
    have e : stepsCells (x :: r) = stepCells x ++ stepsCells r := rfl
    rw [e, List.length_append, ih, List.length_cons]
    simp [stepCells]; omega

theorem stepInfo : (Try.prog.info? 40).map (fun i => (i.zero, i.size, i.bytes)) = some (some (.agg #[.int .i64 0, .int .i64 0, .int .i64 0]), 3, 24) := by kernel_rfl

/-- The loop's relation: the steps up to j are made. -/
def RefLoop (w : World) (s : ByteArray) (j : Nat) (v : Value) (wr : World) : Prop :=
  wr.ownsRow w.heap.size 40 3 v (j / 3) (stepsCells (stepsTo s j)) ∧ Below w.heap.size w wr

/-- Inside a round: the new step lies in a block of its own. -/
def RoundAt (w : World) (s : ByteArray) (j : Nat) (v : Value) (nb : Nat) (W : World) : Prop :=
  W.heap[nb]? = some (.cells #[.int .i64 (kindOf (byteAt s j)), .int .i64 (byteAt s (j + 1)), .int .i64 (byteAt s (j + 2))] 40 (0, 0)) ∧
    W.ownsRow w.heap.size 40 3 v (j / 3) (stepsCells (stepsTo s j)) ∧ Below w.heap.size w W ∧ nb < W.heap.size

def RefStepped (s : ByteArray) (w : World) (e : Ending) (w' : World) : Prop :=
  ∃ v, e = .returned v ∧ w'.ownsRow w.heap.size 40 3 v (s.size / 3) (stepsCells (stepsTo s s.size)) ∧ Below w.heap.size w w'

set_option maxHeartbeats 2000000 in
theorem ref_steps (v : Value) (s : ByteArray) (w : World) (hs : s.size ≤ 100000) (h : RawIs w v s) :
    Calls Try.prog 10 #[v] w (RefStepped s w) := by
  obtain ⟨a, cap, rfl, hcap, hcap2, hb⟩ := h
  have HB := Lib.hid hb; clear hb
  go_enter Try.func10, Try.ntmps10
  go_wp2_with fail
  go_loopw [3, 4] (fun v3 i wr => ∃ j : Nat, j ≤ s.size ∧ j % 3 = 0 ∧ i = .int .i64 j ∧ RefLoop w s j v3 wr) (fun _ i _ => s.size + 3 - (RowKit.intOf i).toNat)
  case atStart => exact ⟨0, by omega, rfl, rfl, ⟨rfl, .inl ⟨rfl, rfl⟩⟩, Below.refl _ _⟩
  case round =>
    obtain ⟨j, hj, hj3, rfl, hown, hbel⟩ := hrel
    have HJ := Lib.hid hj3; have HO := Lib.hid hown; have HBE := Lib.hid hbel
    clear hj3 hown hbel
    by_cases hlt : j + 2 < s.size
    · obtain ⟨b, o, rfl, hby⟩ := HB.out (by omega)
      have hbl : Bytes w b o s := hby
      have hwb : b < w.heap.size := World.block_lt_of_cell? w _ (hby 0 (by omega))
      have hby' : Bytes _ b o s := bytes_block hby (HBE.out.block b hwb)
      have c0 := hby' j (by omega)
      have c1 := hby' (j + 1) (by omega)
      have c2 := hby' (j + 2) (by omega)
      rw [← byteAt_eq] at c0 c1 c2
      have r0 := byteAt_range s j
      have r1 := byteAt_range s (j + 1)
      have r2 := byteAt_range s (j + 2)
      have i0 : (0 : Int) ≤ (j : Int) := by omega
      have i1 : (j : Int) + 2 < (s.size : Int) := by omega
      have hwb2 : b < wr.heap.size := World.block_lt_of_cell? wr _ c0
      have e : ((wr.alloc (.cells #[.int .i64 0, .int .i64 0, .int .i64 0] 40)).drew).heap[b]? = wr.heap[b]? := Below.heap_alloc _ _ _ hwb2
      have d0 : ((wr.alloc (.cells #[.int .i64 0, .int .i64 0, .int .i64 0] 40)).drew).cell? ⟨b, o + j, none⟩ = _ := (World.cell?_of_block (w := wr) e).trans c0
      have d1 : ((wr.alloc (.cells #[.int .i64 0, .int .i64 0, .int .i64 0] 40)).drew).cell? ⟨b, o + (j + 1), none⟩ = _ := (World.cell?_of_block (w := wr) e).trans c1
      have d2 : ((wr.alloc (.cells #[.int .i64 0, .int .i64 0, .int .i64 0] 40)).drew).cell? ⟨b, o + (j + 2), none⟩ = _ := (World.cell?_of_block (w := wr) e).trans c2
      clear hby hbl hby' e
      go_wp2_with fail
      go_region
      by_cases hk : 9 < byteAt s j
      all_goals
        go_upto_region 8 with (fail)
        refine codeWp_world (RoundAt w s j u3 wr.heap.size) ?_ (fun W hW => ?_)
      · refine ⟨?_, (HO.out.alloc _).drew, (HBE.out.alloc HBE.out.size _).drew, by simp⟩
        rw [kindOf, if_pos hk]; exact blk_alloc_new wr _
      rotate_left
      · refine ⟨?_, (HO.out.alloc _).drew, (HBE.out.alloc HBE.out.size _).drew, by simp⟩
        rw [kindOf, if_neg hk]; exact blk_alloc_new wr _
      all_goals
        obtain ⟨hn, hown, hbel, hlt2⟩ := hW
        have n0 : W.cell? ⟨wr.heap.size, 0, none⟩ = some (.int .i64 (kindOf (byteAt s j))) := by rw [cell_of_blk hn]; rfl
        have n1 : W.cell? ⟨wr.heap.size, 1, none⟩ = some (.int .i64 (byteAt s (j + 1))) := by rw [cell_of_blk hn]; rfl
        have n2 : W.cell? ⟨wr.heap.size, 2, none⟩ = some (.int .i64 (byteAt s (j + 2))) := by rw [cell_of_blk hn]; rfl
        have HN := Lib.hid hn; have HO2 := Lib.hid hown; have HB2 := Lib.hid hbel; have HK := Lib.hid hk
        clear hn hown hbel hk c0 c1 c2 d0 d1 d2 r0 r1 r2
        have hbase := HB2.out.size
        obtain ⟨i0', hi, hz0, hz1, hz2⟩ := info_parts stepInfo
        have I0 := Lib.hid hi; have I1 := Lib.hid hz0; have I2 := Lib.hid hz1; have I3 := Lib.hid hz2
        clear hi hz0 hz1 hz2
        go_wp2_with (at_builtin; refine wpList_append_lies _ (by rfl) _ _ _ (by rfl) w.heap.size 40 i0' _ 3 24 Try.underlying33 I0.out I1.out I2.out I3.out rfl (by omega) u3 (j / 3) (stepsCells (stepsTo s j)) (by rfl) (HO2.out.alloc _) ⟨W.heap.size, 0, none⟩ 1 1 (stepCells (stepAt s j)) (by rfl) (by rfl) (World.news_of_block (cs := #[.int .i64 (kindOf (byteAt s j)), .int .i64 (byteAt s (j + 1)), .int .i64 (byteAt s (j + 2))]) (t := 40) (fr := (0, 0)) (heap_alloc_new W _)) (by simp [stepCells, Value.oneCell']) (by omega) (by unfold maxLen; omega) (by omega) (by simp; omega) (W.heap.size + 1) (by simp) ?_; intro g gc w2 hown2 hgrow hat hg; have HO3 := Lib.hid hown2; have HGR := Lib.hid hgrow; clear hown2 hgrow hat)
        go_roundw
        case rel =>
          refine ⟨j + 3, by omega, by have := HJ.out; omega, by go_num, ?_, ?_⟩
          · rw [stepsTo_snoc s j HJ.out, stepsCells_append, show (j + 3) / 3 = j / 3 + 1 by omega]
            have := HO3.out
            simpa [stepsCells] using this
          · refine (HB2.out.alloc hbase _).grown HGR.out (by simp; omega) (fun q hq => ?_)
            rcases HO2.out.2 with ⟨hv, _⟩ | ⟨g', c, cur, hv, hb, hg, _⟩
            · rw [hv] at hq; simp [Value.ownBlock] at hq
            · rw [hv] at hq; simp [Value.ownBlock] at hq; omega
        case measure => simp [RowKit.intOf]; omega
    · go_wp2_with fail
      go_ret
      refine ⟨_, rfl, ?_, HBE.out⟩
      have e : s.size / 3 = j / 3 := by have := HJ.out; omega
      have e2 : stepsTo s s.size = stepsTo s j := by unfold stepsTo; rw [e]
      rw [e, e2]; exact HO.out

/-! ### The program's steps: a function that hands them on -/
/-- What one call of whoever goes over them does: step k; he goes on, or ends. -/
def Handed (Inv : Nat → World → Prop) (Done : Nat → World → Prop) (k : Nat) (e : Ending) (w' : World) : Prop :=
  (e = .returned (.bool true) ∧ Inv (k + 1) w') ∨ (e = .returned (.bool false) ∧ Done k w')

/-- Behind all of them. -/
def AllHanded (Inv : Nat → World → Prop) (Done : Nat → World → Prop) (n : Nat) (e : Ending) (w' : World) : Prop :=
  e = .returned (.tuple #[]) ∧ (Inv n w' ∨ ∃ k, k < n ∧ Done k w')

theorem stepSlice (W : World) (a : Option Addr) (n c : Nat) (h : 3 ≤ n) (hc : n ≤ c) :
    (Instr.slice 31 (.slice a n c) (some (.int .i64 3)) none none).run Try.prog W = .ok (.slice (if c = 3 then a else a.map (·.add 3)) (n - 3) (c - 3)) W := by
  have hel : Try.prog.elem 31 = 5 := by kernel_rfl
  have ht : Try.prog.underlying 31 = some (.slice (Try.prog.elem 31)) := by rw [hel]; exact Try.underlying31
  have hz : (Go.sizeOf 5).run Try.prog W = .ok 1 W := by kernel_rfl
  have := run_slice_l (P := Try.prog) W 31 a n c ht .i64 3 (by omega) (by omega)
  rw [this, hel, hz]
  simp [Result.andThen, sliced]

set_option maxHeartbeats 2000000 in
theorem steps_each (v : Value) (s : ByteArray) (bb : Nat) (f : FuncId) (caps : Array Value) (Inv Done : Nat → World → Prop)
    (hcf : ∀ args W, (callFunc f args).run Try.prog W = .ok (.enter f args) W)
    (hI : ∀ k W, Inv k W → W.cell? ⟨bb, 0, none⟩ = some v ∧ RawIs W v s)
    (hT : ∀ k W W', Inv k W → Touch (fun _ => False) W W' → Inv k W')
    (hcall : ∀ k W, Inv k W → k < s.size / 3 → Calls Try.prog f (#[.agg #[.int .i64 (stepAt s (3 * k)).1, .int .i64 (stepAt s (3 * k)).2.1, .int .i64 (stepAt s (3 * k)).2.2]] ++ caps) W (Handed Inv Done k))
    (w : World) (h0 : Inv 0 w) :
    Calls Try.prog 26 #[.func (.func f) #[] caps, .pointer (some ⟨bb, 0, none⟩)] w (AllHanded Inv Done (s.size / 3)) := by
  obtain ⟨hc0, hraw⟩ := hI 0 w h0
  obtain ⟨a, cap, rfl, hcap, hcap2, hb⟩ := hraw
  have HI := Lib.hid hI; have HT := Lib.hid hT; have HC := Lib.hid hcall; have H0 := Lib.hid h0; have HB := Lib.hid hb
  clear hI hT hcall h0 hb
  go_enter Try.func26, Try.ntmps26
  go_wp2_with fail
  go_loopw [3] (fun t wr => ∃ (k : Nat) (a3 : Option Addr) (c3 : Nat), 3 * k ≤ s.size ∧ t = .slice a3 (s.size - 3 * k) c3 ∧ s.size - 3 * k ≤ c3 ∧ (3 ≤ s.size - 3 * k → ∃ b o, a = some ⟨b, o, none⟩ ∧ a3 = some ⟨b, o + 3 * k, none⟩) ∧ Inv k wr)
    (fun t _ => match t with | .slice _ n _ => n | _ => 0)
  case atStart =>
    refine ⟨0, a, cap, by omega, by simp, by omega, fun h => ?_, H0.out⟩
    obtain ⟨b, o, e, _⟩ := HB.out (by omega)
    exact ⟨b, o, e, e⟩
  case round =>
    obtain ⟨k, a3, c3, hk, rfl, hc3, ha3, hinv⟩ := hrel
    have HA := Lib.hid ha3; have HV := Lib.hid hinv
    clear ha3 hinv
    by_cases hlt : 3 ≤ s.size - 3 * k
    · obtain ⟨b, o, rfl, rfl⟩ := HA.out hlt
      obtain ⟨hbox, hraw⟩ := HI.out k _ HV.out
      obtain ⟨b', o', hbo, hby⟩ : ∃ b' o', some (⟨b, o, none⟩ : Addr) = some ⟨b', o', none⟩ ∧ Bytes wr b' o' s := by
        obtain ⟨a', c', hv, _, _, h⟩ := hraw
        simp only [Value.slice.injEq] at hv
        obtain ⟨rfl, _, _⟩ := hv
        exact h (by omega)
      cases hbo
      have c0 := hby (3 * k) (by omega)
      have c1 := hby (3 * k + 1) (by omega)
      have c2 := hby (3 * k + 2) (by omega)
      rw [← byteAt_eq] at c0 c1 c2
      have r0 := byteAt_range s (3 * k)
      have r1 := byteAt_range s (3 * k + 1)
      have r2 := byteAt_range s (3 * k + 2)
      have hwb2 : b < wr.heap.size := World.block_lt_of_cell? wr _ c0
      have e : ((wr.alloc (.cells #[.int .i64 0, .int .i64 0, .int .i64 0] 39)).drew).heap[b]? = wr.heap[b]? := Below.heap_alloc _ _ _ hwb2
      have d0 : ((wr.alloc (.cells #[.int .i64 0, .int .i64 0, .int .i64 0] 39)).drew).cell? ⟨b, o + 3 * k, none⟩ = _ := (World.cell?_of_block (w := wr) e).trans c0
      have d1 : ((wr.alloc (.cells #[.int .i64 0, .int .i64 0, .int .i64 0] 39)).drew).cell? ⟨b, o + (3 * k + 1), none⟩ = _ := (World.cell?_of_block (w := wr) e).trans c1
      have d2 : ((wr.alloc (.cells #[.int .i64 0, .int .i64 0, .int .i64 0] 39)).drew).cell? ⟨b, o + (3 * k + 2), none⟩ = _ := (World.cell?_of_block (w := wr) e).trans c2
      rw [← Nat.add_assoc] at c1 c2 d1 d2
      have hmeas : s.size - 3 * (k + 1) = s.size - 3 * k - 3 := by omega
      have HME := Lib.hid hmeas
      generalize hr : s.size - 3 * k = r at *
      have HR := Lib.hid hr
      have i0 : (0 : Int) < (r : Int) := by omega
      have i1 : (1 : Int) < (r : Int) := by omega
      have i2 : (2 : Int) < (r : Int) := by omega
      clear hr hmeas hby hraw e
      go_wp2_with fail
      go_region
      by_cases hk9 : 9 < byteAt s (3 * k)
      all_goals
        go_upto_region 6 with (fail)
        refine codeWp_world (fun W => W.heap[wr.heap.size]? = some (.cells #[.int .i64 (kindOf (byteAt s (3 * k))), .int .i64 (byteAt s (3 * k + 1)), .int .i64 (byteAt s (3 * k + 2))] 39 (0, 0)) ∧ Touch (fun _ => False) wr W) ?_ (fun W hW => ?_)
      · refine ⟨?_, ((Touch.refl _ _).alloc _).drew⟩
        rw [kindOf, if_pos hk9]; exact blk_alloc_new wr _
      rotate_left
      · refine ⟨?_, ((Touch.refl _ _).alloc _).drew⟩
        rw [kindOf, if_neg hk9]; exact blk_alloc_new wr _
      all_goals
        obtain ⟨hn, htc⟩ := hW
        have n0 : W.cell? ⟨wr.heap.size, 0, none⟩ = some (.int .i64 (kindOf (byteAt s (3 * k)))) := by rw [cell_of_blk hn]; rfl
        have n1 : W.cell? ⟨wr.heap.size, 1, none⟩ = some (.int .i64 (byteAt s (3 * k + 1))) := by rw [cell_of_blk hn]; rfl
        have n2 : W.cell? ⟨wr.heap.size, 2, none⟩ = some (.int .i64 (byteAt s (3 * k + 2))) := by rw [cell_of_blk hn]; rfl
        have hinv2 := HT.out k wr W HV.out htc
        have HV2 := Lib.hid hinv2
        have HK9 := Lib.hid hk9
        clear hn htc hinv2 c0 c1 c2 d0 d1 d2 hk9 r0 r1 r2
        have hlk : k < s.size / 3 := by have := HR.out; omega
        go_wp2_with fail
        refine (HC.out k W HV2.out hlk).mono ?_
        rintro e w5 (⟨rfl, hv5⟩ | ⟨rfl, hdone⟩)
        · have hsl : ∀ W', _ := fun W' => stepSlice W' (some ⟨b, o + 3 * k, none⟩) r c3 hlt hc3
          obtain ⟨a', ha'⟩ : ∃ a', (if c3 = 3 then some (⟨b, o + 3 * k, none⟩ : Addr) else (some (⟨b, o + 3 * k, none⟩ : Addr)).map (·.add 3)) = a' := ⟨_, rfl⟩
          rw [ha'] at hsl
          have HA' := Lib.hid ha'; have HV5 := Lib.hid hv5
          clear ha' hv5
          go_wp2_with fail
          go_roundw
          case rel =>
            refine ⟨k + 1, a', c3 - 3, by have := HR.out; omega, by rw [HME.out], by rw [HME.out]; omega, fun h => ⟨b, o, rfl, ?_⟩, HV5.out⟩
            rw [HME.out] at h
            rw [← HA'.out, if_neg (by omega)]
            simp only [Option.map_some, WideShapes.add_plain]
            rw [show o + 3 * (k + 1) = o + 3 * k + 3 by omega]
          case measure => simp; omega
        · have HD := Lib.hid hdone
          clear hdone
          go_wp2_with fail
          go_end0
          exact ⟨rfl, .inr ⟨k, hlk, HD.out⟩⟩
    · go_wp2_with fail
      go_end0
      have : k = s.size / 3 := by omega
      subst this
      exact ⟨rfl, .inl HV.out⟩

end Go.Proofs.Ytcdfidojddlgpaa
