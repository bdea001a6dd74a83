/- The little run of layer 29's laws: a contract. -/
import Derived.Test.YthlgkicidbagbaaTrace
import Derived.Lib.SlBytesRow
import Derived.BigRegion
import Derived.Deep.DeepCutAuto
import Derived.Deep.CutBlock
import Derived.WalkLawsBesides
namespace Go.Proofs.Ythlgkicidbagbaa
set_option maxRecDepth 100000
open Go Go.RowKit Go.ChangeMaps
set_option linter.unusedVariables false
open Go.Lib


theorem bytes_block {w w' : World} {b o : Nat} {s : ByteArray} (h : Bytes w b o s) (e : w'.heap[b]? = w.heap[b]?) : Bytes w' b o s := fun i hi => by
  rw [World.cell?_of_block (w := w) e]; exact h i hi

/-- A slice value is of these bytes. -/
def RawIs (w : World) (v : Value) (s : ByteArray) : Prop := ∃ a cap, v = .slice a s.size cap ∧ s.size ≤ cap ∧ cap ≤ 9223372036854775807 ∧ (0 < s.size → ∃ b o, a = some ⟨b, o, none⟩ ∧ Bytes w b o s)

theorem RawIs.touch {w w' : World} {v : Value} {s : ByteArray} (h : RawIs w v s) (t : Touch (fun _ => False) w w') : RawIs w' v s := by
  obtain ⟨a, cap, h1, h3, h5, h2⟩ := h
  refine ⟨a, cap, h1, h3, h5, fun hp => ?_⟩
  obtain ⟨bb, o, h3, h4⟩ := h2 hp
  exact ⟨bb, o, h3, bytes_block h4 (t.block _ (World.block_lt_of_cell? w _ (h4 0 hp)) (fun h => h))⟩

/-- A step: its kind, and two numbers. -/
abbrev Stp := Int × Int × Int
def byteAt (s : ByteArray) (i : Nat) : Int := ((s.data.toList.getD i 0).toNat : Int)
theorem byteAt_eq (s : ByteArray) (i : Nat) (h : i < s.size) : byteAt s i = (s[i].toNat : Int) := by
  have h' : i < s.data.toList.length := by simpa using h
  simp only [byteAt, List.getD_eq_getElem?_getD, List.getElem?_eq_getElem h', Option.getD_some]
  rfl
theorem byteAt_range (s : ByteArray) (i : Nat) : 0 ≤ byteAt s i ∧ byteAt s i ≤ 255 := by
  have := (s.data.toList.getD i 0).toNat_lt
  unfold byteAt; omega
def kindOf (x : Int) : Int := if 9 < x then 0 else x
def stepAt (s : ByteArray) (j : Nat) : Stp := (kindOf (byteAt s j), byteAt s (j + 1), byteAt s (j + 2))
/-- The steps of the bytes up to j. -/
def stepsTo (s : ByteArray) (j : Nat) : List Stp := (List.range (j / 3)).map fun k => stepAt s (3 * k)
def stepCells (x : Stp) : List Value := [.int .i64 x.1, .int .i64 x.2.1, .int .i64 x.2.2]
def stepsCells (l : List Stp) : List Value := l.flatMap stepCells
theorem stepsTo_snoc (s : ByteArray) (j : Nat) (h : j % 3 = 0) : stepsTo s (j + 3) = stepsTo s j ++ [stepAt s j] := by
  unfold stepsTo
  rw [show (j + 3) / 3 = j / 3 + 1 by omega, List.range_succ, List.map_append]
  simp only [List.map_cons, List.map_nil]
  rw [show 3 * (j / 3) = j by omega]
theorem stepsTo_length (s : ByteArray) (j : Nat) : (stepsTo s j).length = j / 3 := by simp [stepsTo]
theorem stepsCells_append (l m : List Stp) : stepsCells (l ++ m) = stepsCells l ++ stepsCells m := by simp [stepsCells]
theorem stepsCells_length (l : List Stp) : (stepsCells l).length = l.length * 3 := by
  induction l with
  | nil => rfl
  | cons x r ih =>
    have e : stepsCells (x :: r) = stepCells x ++ stepsCells r := rfl
    rw [e, List.length_append, ih, List.length_cons]
    simp [stepCells]; omega

/-! ### The program's steps: a function that hands them on -/
/-- What one call of whoever goes over them does: step k; he goes on, or ends. -/
def Handed (Inv : Nat → World → Prop) (Done : Nat → World → Prop) (k : Nat) (e : Ending) (w' : World) : Prop :=
  (e = .returned (.bool true) ∧ Inv (k + 1) w') ∨ (e = .returned (.bool false) ∧ Done k w')

/-- Behind all of them. -/
def AllHanded (Inv : Nat → World → Prop) (Done : Nat → World → Prop) (n : Nat) (e : Ending) (w' : World) : Prop :=
  e = .returned (.tuple #[]) ∧ (Inv n w' ∨ ∃ k, k < n ∧ Done k w')

theorem stepSlice (W : World) (a : Option Addr) (n c : Nat) (h : 3 ≤ n) (hc : n ≤ c) :
    (Instr.slice 49 (.slice a n c) (some (.int .i64 3)) none none).run Try.prog W = .ok (.slice (if c = 3 then a else a.map (·.add 3)) (n - 3) (c - 3)) W := by
  have hel : Try.prog.elem 49 = 5 := by kernel_rfl
  have ht : Try.prog.underlying 49 = some (.slice (Try.prog.elem 49)) := by rw [hel]; exact Try.underlying49
  have hz : (Go.sizeOf 5).run Try.prog W = .ok 1 W := by kernel_rfl
  have := run_slice_l (P := Try.prog) W 49 a n c ht .i64 3 (by omega) (by omega)
  rw [this, hel, hz]
  simp [Result.andThen, sliced]

set_option maxHeartbeats 2000000 in
theorem steps_each (v : Value) (s : ByteArray) (bb : Nat) (f : FuncId) (caps : Array Value) (Inv Done : Nat → World → Prop)
    (hcf : ∀ args W, (callFunc f args).run Try.prog W = .ok (.enter f args) W)
    (hI : ∀ k W, Inv k W → W.cell? ⟨bb, 0, none⟩ = some v ∧ RawIs W v s)
    (hT : ∀ k W W', Inv k W → Touch (fun _ => False) W W' → Inv k W')
    (hcall : ∀ k W, Inv k W → k < s.size / 3 → Calls Try.prog f (#[.agg #[.int .i64 (stepAt s (3 * k)).1, .int .i64 (stepAt s (3 * k)).2.1, .int .i64 (stepAt s (3 * k)).2.2]] ++ caps) W (Handed Inv Done k))
    (w : World) (h0 : Inv 0 w) :
    Calls Try.prog 33 #[.func (.func f) #[] caps, .pointer (some ⟨bb, 0, none⟩)] w (AllHanded Inv Done (s.size / 3)) := by
  obtain ⟨hc0, hraw⟩ := hI 0 w h0
  obtain ⟨a, cap, rfl, hcap, hcap2, hb⟩ := hraw
  have HI := Lib.hid hI; have HT := Lib.hid hT; have HC := Lib.hid hcall; have H0 := Lib.hid h0; have HB := Lib.hid hb
  clear hI hT hcall h0 hb
  go_enter Try.func33, Try.ntmps33
  go_wp2_with fail
  go_loopw [3] (fun t wr => ∃ (k : Nat) (a3 : Option Addr) (c3 : Nat), 3 * k ≤ s.size ∧ t = .slice a3 (s.size - 3 * k) c3 ∧ s.size - 3 * k ≤ c3 ∧ (3 ≤ s.size - 3 * k → ∃ b o, a = some ⟨b, o, none⟩ ∧ a3 = some ⟨b, o + 3 * k, none⟩) ∧ Inv k wr)
    (fun t _ => match t with | .slice _ n _ => n | _ => 0)
  case atStart =>
    refine ⟨0, a, cap, by omega, by simp, by omega, fun h => ?_, H0.out⟩
    obtain ⟨b, o, e, _⟩ := HB.out (by omega)
    exact ⟨b, o, e, e⟩
  case round =>
    obtain ⟨k, a3, c3, hk, rfl, hc3, ha3, hinv⟩ := hrel
    have HA := Lib.hid ha3; have HV := Lib.hid hinv
    clear ha3 hinv
    by_cases hlt : 3 ≤ s.size - 3 * k
    · obtain ⟨b, o, rfl, rfl⟩ := HA.out hlt
      obtain ⟨hbox, hraw⟩ := HI.out k _ HV.out
      obtain ⟨b', o', hbo, hby⟩ : ∃ b' o', some (⟨b, o, none⟩ : Addr) = some ⟨b', o', none⟩ ∧ Bytes wr b' o' s := by
        obtain ⟨a', c', hv, _, _, h⟩ := hraw
        simp only [Value.slice.injEq] at hv
        obtain ⟨rfl, _, _⟩ := hv
        exact h (by omega)
      cases hbo
      have c0 := hby (3 * k) (by omega)
      have c1 := hby (3 * k + 1) (by omega)
      have c2 := hby (3 * k + 2) (by omega)
      rw [← byteAt_eq] at c0 c1 c2
      have r0 := byteAt_range s (3 * k)
      have r1 := byteAt_range s (3 * k + 1)
      have r2 := byteAt_range s (3 * k + 2)
      have hwb2 : b < wr.heap.size := World.block_lt_of_cell? wr _ c0
      have e : ((wr.alloc (.cells #[.int .i64 0, .int .i64 0, .int .i64 0] 61)).drew).heap[b]? = wr.heap[b]? := Below.heap_alloc _ _ _ hwb2
      have d0 : ((wr.alloc (.cells #[.int .i64 0, .int .i64 0, .int .i64 0] 61)).drew).cell? ⟨b, o + 3 * k, none⟩ = _ := (World.cell?_of_block (w := wr) e).trans c0
      have d1 : ((wr.alloc (.cells #[.int .i64 0, .int .i64 0, .int .i64 0] 61)).drew).cell? ⟨b, o + (3 * k + 1), none⟩ = _ := (World.cell?_of_block (w := wr) e).trans c1
      have d2 : ((wr.alloc (.cells #[.int .i64 0, .int .i64 0, .int .i64 0] 61)).drew).cell? ⟨b, o + (3 * k + 2), none⟩ = _ := (World.cell?_of_block (w := wr) e).trans c2
      rw [← Nat.add_assoc] at c1 c2 d1 d2
      have hmeas : s.size - 3 * (k + 1) = s.size - 3 * k - 3 := by omega
      have HME := Lib.hid hmeas
      generalize hr : s.size - 3 * k = r at *
      have HR := Lib.hid hr
      have i0 : (0 : Int) < (r : Int) := by omega
      have i1 : (1 : Int) < (r : Int) := by omega
      have i2 : (2 : Int) < (r : Int) := by omega
      clear hr hmeas hby hraw e
      go_wp2_with fail
      go_region
      by_cases hk9 : 9 < byteAt s (3 * k)
      all_goals
        go_upto_region 6 with (fail)
        refine codeWp_world (fun W => W.heap[wr.heap.size]? = some (.cells #[.int .i64 (kindOf (byteAt s (3 * k))), .int .i64 (byteAt s (3 * k + 1)), .int .i64 (byteAt s (3 * k + 2))] 61 (0, 0)) ∧ Touch (fun _ => False) wr W) ?_ (fun W hW => ?_)
      · refine ⟨?_, ((Touch.refl _ _).alloc _).drew⟩
        rw [kindOf, if_pos hk9]; exact blk_alloc_new wr _
      rotate_left
      · refine ⟨?_, ((Touch.refl _ _).alloc _).drew⟩
        rw [kindOf, if_neg hk9]; exact blk_alloc_new wr _
      all_goals
        obtain ⟨hn, htc⟩ := hW
        have n0 : W.cell? ⟨wr.heap.size, 0, none⟩ = some (.int .i64 (kindOf (byteAt s (3 * k)))) := by rw [cell_of_blk hn]; rfl
        have n1 : W.cell? ⟨wr.heap.size, 1, none⟩ = some (.int .i64 (byteAt s (3 * k + 1))) := by rw [cell_of_blk hn]; rfl
        have n2 : W.cell? ⟨wr.heap.size, 2, none⟩ = some (.int .i64 (byteAt s (3 * k + 2))) := by rw [cell_of_blk hn]; rfl
        have hinv2 := HT.out k wr W HV.out htc
        have HV2 := Lib.hid hinv2
        have HK9 := Lib.hid hk9
        clear hn htc hinv2 c0 c1 c2 d0 d1 d2 hk9 r0 r1 r2
        have hlk : k < s.size / 3 := by have := HR.out; omega
        go_wp2_with fail
        refine (HC.out k W HV2.out hlk).mono ?_
        rintro e w5 (⟨rfl, hv5⟩ | ⟨rfl, hdone⟩)
        · have hsl : ∀ W', _ := fun W' => stepSlice W' (some ⟨b, o + 3 * k, none⟩) r c3 hlt hc3
          obtain ⟨a', ha'⟩ : ∃ a', (if c3 = 3 then some (⟨b, o + 3 * k, none⟩ : Addr) else (some (⟨b, o + 3 * k, none⟩ : Addr)).map (·.add 3)) = a' := ⟨_, rfl⟩
          rw [ha'] at hsl
          have HA' := Lib.hid ha'; have HV5 := Lib.hid hv5
          clear ha' hv5
          go_wp2_with fail
          go_roundw
          case rel =>
            refine ⟨k + 1, a', c3 - 3, by have := HR.out; omega, by rw [HME.out], by rw [HME.out]; omega, fun h => ⟨b, o, rfl, ?_⟩, HV5.out⟩
            rw [HME.out] at h
            rw [← HA'.out, if_neg (by omega)]
            simp only [Option.map_some, WideShapes.add_plain]
            rw [show o + 3 * (k + 1) = o + 3 * k + 3 by omega]
          case measure => simp; omega
        · have HD := Lib.hid hdone
          clear hdone
          go_wp2_with fail
          go_end0
          exact ⟨rfl, .inr ⟨k, hlk, HD.out⟩⟩
    · go_wp2_with fail
      go_end0
      have : k = s.size / 3 := by omega
      subst this
      exact ⟨rfl, .inl HV.out⟩

/-- A variable of one cell in a block of its own. -/
def Var1 (w : World) (b : Nat) (v : Value) : Prop := ∃ t, w.heap[b]? = some (.cells #[v] t (0, 0))
theorem Var1.cell {w : World} {b : Nat} {v : Value} (h : Var1 w b v) : w.cell? ⟨b, 0, none⟩ = some v := by
  obtain ⟨t, h⟩ := h; rw [cell_of_blk h]; rfl
theorem Var1.free {w : World} {b : Nat} {v : Value} (h : Var1 w b v) : w.frozen? ⟨b, 0, none⟩ = false := by
  obtain ⟨t, h⟩ := h; exact free_of_blk h 0
theorem Var1.lt {w : World} {b : Nat} {v : Value} (h : Var1 w b v) : b < w.heap.size := by
  obtain ⟨t, h⟩ := h; exact blk_lt h
theorem Var1.touch {F : Nat → Prop} {w w' : World} {b : Nat} {v : Value} (h : Var1 w b v) (t : Touch F w w') (hF : ¬ F b) : Var1 w' b v := by
  obtain ⟨ty, h⟩ := h; exact ⟨ty, t.keep h hF⟩
theorem Var1.set {w : World} {b : Nat} {v : Value} (h : Var1 w b v) (u : Value) : Var1 (w.setCell ⟨b, 0, none⟩ u) b u := by
  obtain ⟨ty, h⟩ := h; exact ⟨ty, by have := blk_setCell h 0 u; exact this⟩
theorem Var1.alloc (w : World) (v : Value) (t : TypeId) : Var1 (w.alloc (.cells #[v] t)) w.heap.size v := ⟨t, blk_alloc_new w _⟩

/-- A call that makes one block, and writes into some variables. -/
def Ret (v : Value) (w : World) (f : World → World) (e : Ending) (w' : World) : Prop := e = .returned v ∧ w' = f w

def FineDid (b1 b2 : Nat) (k : Int) (w : World) (e : Ending) (w' : World) : Prop :=
  e = .returned (.bool true) ∧ Var1 w' b1 (.int .i64 (k + 1)) ∧ Var1 w' b2 (.bool true) ∧ Touch (fun i => i = b1 ∨ i = b2) w w'

theorem fine_two {w : World} {b1 b2 : Nat} {k : Int} (h1 : Var1 w b1 (.int .i64 k)) (h2 : Var1 w b2 (.bool true)) (hne : b1 ≠ b2) :
    Var1 ((w.setCell ⟨b1, 0, none⟩ (.int .i64 (k + 1))).setCell ⟨b2, 0, none⟩ (.bool true)) b1 (.int .i64 (k + 1)) ∧ Var1 ((w.setCell ⟨b1, 0, none⟩ (.int .i64 (k + 1))).setCell ⟨b2, 0, none⟩ (.bool true)) b2 (.bool true) ∧
    Touch (fun i => i = b1 ∨ i = b2) w ((w.setCell ⟨b1, 0, none⟩ (.int .i64 (k + 1))).setCell ⟨b2, 0, none⟩ (.bool true)) := by
  refine ⟨?_, ?_, ?_⟩
  · exact (h1.set _).touch (Touch.setCell (F := fun i => i = b2) (Touch.refl _ _) (.inl rfl) _) hne
  · exact (h2.touch (Touch.setCell (F := fun i => i = b1) (Touch.refl _ _) (.inl rfl) _) (Ne.symm hne)).set _
  · exact Touch.setCell (F := fun i => i = b1 ∨ i = b2) (Touch.setCell (F := fun i => i = b1 ∨ i = b2) (Touch.refl _ _) (.inl (.inl rfl)) _) (.inl (.inr rfl)) _
theorem fine_two' {w : World} {b1 b2 : Nat} {k : Int} (h1 : Var1 w b1 (.int .i64 k)) (h2 : Var1 w b2 (.bool true)) (hne : b1 ≠ b2) :
    Var1 ((w.setCell ⟨b2, 0, none⟩ (.bool true)).setCell ⟨b1, 0, none⟩ (.int .i64 (k + 1))) b1 (.int .i64 (k + 1)) ∧ Var1 ((w.setCell ⟨b2, 0, none⟩ (.bool true)).setCell ⟨b1, 0, none⟩ (.int .i64 (k + 1))) b2 (.bool true) ∧
    Touch (fun i => i = b1 ∨ i = b2) w ((w.setCell ⟨b2, 0, none⟩ (.bool true)).setCell ⟨b1, 0, none⟩ (.int .i64 (k + 1))) := by
  refine ⟨?_, ?_, ?_⟩
  · exact (h1.touch (Touch.setCell (F := fun i => i = b2) (Touch.refl _ _) (.inl rfl) _) hne).set _
  · exact (h2.set _).touch (Touch.setCell (F := fun i => i = b1) (Touch.refl _ _) (.inl rfl) _) (Ne.symm hne)
  · exact Touch.setCell (F := fun i => i = b1 ∨ i = b2) (Touch.setCell (F := fun i => i = b1 ∨ i = b2) (Touch.refl _ _) (.inl (.inr rfl)) _) (.inl (.inl rfl)) _
theorem FineDid.more {w w' : World} {b1 b2 : Nat} {k : Int} (h : Var1 w' b1 (.int .i64 (k + 1)) ∧ Var1 w' b2 (.bool true) ∧ Touch (fun i => i = b1 ∨ i = b2) w w') (o : Obj) :
    Var1 (w'.alloc o) b1 (.int .i64 (k + 1)) ∧ Var1 (w'.alloc o) b2 (.bool true) ∧ Touch (fun i => i = b1 ∨ i = b2) w (w'.alloc o) :=
  ⟨h.1.touch ((Touch.refl (fun _ => False) _).alloc _) (fun h => h), h.2.1.touch ((Touch.refl (fun _ => False) _).alloc _) (fun h => h), h.2.2.alloc _⟩

/-- The little run's literal. -/
theorem one_each {w : World} {b1 b2 : Nat} (k : Int) (h1 : Var1 w b1 (.int .i64 k)) (h2 : Var1 w b2 (.bool true)) (hne : b1 ≠ b2) (hk : 0 ≤ k) (hk2 : k ≤ 1000000) :
    Calls Try.prog 22 #[.agg #[.int .i64 1, .int .i64 0, .int .i64 2], .pointer (some ⟨b1, 0, none⟩), .pointer (some ⟨b2, 0, none⟩)] w (FineDid b1 b2 k w) := by
  have c1 := h1.cell
  have c2 := h2.cell
  have f1 := h1.free
  have f2 := h2.free
  have l1 := h1.lt
  have l2 := h2.lt
  have H1 := Lib.hid h1; have H2 := Lib.hid h2
  clear h1 h2
  go_enter Try.func22, Try.ntmps22
  go_wp2
  go_ret
  exact ⟨rfl, FineDid.more (fine_two H1.out H2.out hne) _⟩

theorem enter_one (args : Array Value) (W : World) : (callFunc 22 args).run Try.prog W = .ok (.enter 22 args) W := by kernel_rfl

def oneBytes : ByteArray := ⟨#[1, 0, 2, 5]⟩

def Yes (w : World) (e : Ending) (w' : World) : Prop := e = .returned (.bool true) ∧ Below w.heap.size w w'

theorem qFunc (w : World) (f : Fn) (c : Array Value) : (binOp .eql 58 (.func f #[] c) .nilFunc).run Try.prog w = .ok (.bool false) w := by kernel_rfl

/-- What holds while the little run's literal is handed steps. -/
def OneInv (w : World) (v : Value) (k : Nat) (W : World) : Prop :=
  Var1 W (w.heap.size + 2) (.int .i64 k) ∧ Var1 W (w.heap.size + 3) (.bool true) ∧ Var1 W (w.heap.size + 1) v ∧ RawIs W v oneBytes ∧ Below w.heap.size w W

theorem bytes_of_list' {w : World} {b : Nat} {cur : Array Value} {t : TypeId} {s : ByteArray} (h : w.heap[b]? = some (.cells cur t (0, 0))) (e : ∀ i (hi : i < s.size), cur[i]? = some (.int .u8 (s[i].toNat : Int))) : Bytes w b 0 s := by
  intro i hi
  rw [cell_of_blk h, Nat.zero_add, e i hi]

theorem one_below {w W W' : World} (h : Below w.heap.size w W) (t : Touch (fun _ => False) W W') : Below w.heap.size w W' :=
  h.trans ⟨t.os, t.tape, t.output, t.size, fun i hi => t.block i (by have := h.size; omega) (fun h => h)⟩

/-- Bytes that lie apart from what is touched stay. -/
theorem raw_far {F : Nat → Prop} {b n cap : Nat} {W W' : World} {s : ByteArray} (h : RawIs W (.slice (some ⟨b, 0, none⟩) n cap) s) (t : Touch F W W') (hF : ¬ F b) (hp : 0 < s.size) : RawIs W' (.slice (some ⟨b, 0, none⟩) n cap) s := by
  obtain ⟨a, c, h1, h2, h3, h4⟩ := h
  simp only [Value.slice.injEq] at h1
  obtain ⟨rfl, rfl, rfl⟩ := h1
  refine ⟨_, _, rfl, h2, h3, fun hp => ?_⟩
  obtain ⟨b', o, e, hb⟩ := h4 hp
  cases e
  exact ⟨_, _, rfl, bytes_block hb (t.block _ (World.block_lt_of_cell? W _ (hb 0 hp)) hF)⟩

theorem one_any (w : World) : Calls Try.prog 9 #[] w (Yes w) := by
  have hq := qFunc
  go_enter Try.func9, Try.ntmps9
  go_wp2_with (first | (go_at_call 21; go_in) | fail)
  refine (steps_each (.slice (some ⟨w.heap.size, 0, none⟩) 4 4) oneBytes (w.heap.size + 1) 22 _ (OneInv w (.slice (some ⟨w.heap.size, 0, none⟩) 4 4)) (fun _ _ => False) enter_one
    (fun k W h => ⟨h.2.2.1.cell, h.2.2.2.1⟩) (fun k W W' h t => ⟨h.1.touch t (fun h => h), h.2.1.touch t (fun h => h), h.2.2.1.touch t (fun h => h), h.2.2.2.1.touch t, one_below h.2.2.2.2 t⟩) ?_ _ ?_).mono ?_
  · intro k W h hk
    have k0 : k = 0 := by have : oneBytes.size / 3 = 1 := rfl; omega
    subst k0
    refine (one_each 0 h.1 h.2.1 (by omega) (by omega) (by omega)).mono ?_
    rintro e W' ⟨he, v1, v2, t⟩
    refine .inl ⟨he, v1, v2, h.2.2.1.touch t (by omega), raw_far h.2.2.2.1 t (by omega) (by omega), ?_⟩
    exact h.2.2.2.2.trans ⟨t.os, t.tape, t.output, t.size, fun i hi => t.block i (by have := h.2.2.2.2.size; omega) (by omega)⟩
  · have z1 : ((w.alloc (.cells #[.int .u8 1, .int .u8 0, .int .u8 2, .int .u8 5] 5))).heap.size = w.heap.size + 1 := by simp
    refine ⟨?_, ?_, ?_, ?_, ?_⟩
    · exact ⟨_, blk_alloc_old (by have := blk_alloc_new ((w.alloc (.cells #[.int .u8 1, .int .u8 0, .int .u8 2, .int .u8 5] 5)).alloc (.cells #[.slice (some ⟨w.heap.size, 0, none⟩) 4 4] 49)) (.cells #[.int .i64 0] 3); simpa using this) _⟩
    · exact ⟨_, by have := blk_alloc_new (((w.alloc (.cells #[.int .u8 1, .int .u8 0, .int .u8 2, .int .u8 5] 5)).alloc (.cells #[.slice (some ⟨w.heap.size, 0, none⟩) 4 4] 49)).alloc (.cells #[.int .i64 0] 3)) (.cells #[.bool true] 4); simpa using this⟩
    · exact ⟨_, blk_alloc_old (blk_alloc_old (by have := blk_alloc_new (w.alloc (.cells #[.int .u8 1, .int .u8 0, .int .u8 2, .int .u8 5] 5)) (.cells #[.slice (some ⟨w.heap.size, 0, none⟩) 4 4] 49); rw [z1] at this; exact this) _) _⟩
    · refine ⟨_, 4, rfl, by show 4 ≤ 4; omega, by omega, fun _ => ⟨w.heap.size, 0, rfl, ?_⟩⟩
      refine bytes_of_list' (blk_alloc_old (blk_alloc_old (blk_alloc_old (blk_alloc_new w (.cells #[.int .u8 1, .int .u8 0, .int .u8 2, .int .u8 5] 5)) _) _) _) fun i hi => ?_
      have hi4 : i < 4 := hi
      rcases (show i = 0 ∨ i = 1 ∨ i = 2 ∨ i = 3 by omega) with rfl | rfl | rfl | rfl <;> rfl
    · exact ((((Below.refl _ _).alloc (Nat.le_refl _) _).alloc (by simp) _).alloc (by simp; omega) _).alloc (by simp; omega) _
  rintro e w5 ⟨rfl, h5⟩
  have h6 : OneInv w (.slice (some ⟨w.heap.size, 0, none⟩) 4 4) 1 w5 := by
    rcases h5 with h | ⟨_, _, h⟩
    · exact h
    · exact h.elim
  have c1 := h6.1.cell
  have c2 := h6.2.1.cell
  have HB := Lib.hid h6.2.2.2.2
  clear h5 h6
  go_wp2
  go_ret
  exact ⟨rfl, HB.out⟩


end Go.Proofs.Ythlgkicidbagbaa
