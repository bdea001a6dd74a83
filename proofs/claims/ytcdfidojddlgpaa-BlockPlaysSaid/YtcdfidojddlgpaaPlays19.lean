/- Both devices under one step, whatever it asks: contracts; and how a row of steps reads. -/
import Derived.Test.YtcdfidojddlgpaaRef19
import Derived.Test.YtcdfidojddlgpaaFull
import Derived.Deep.Slices
namespace Go.Proofs.Ytcdfidojddlgpaa
set_option maxRecDepth 100000
open Go Go.RowKit Go.ChangeMaps Go.Lib

/-- Whether a write may be, what it tells, and what it leaves. -/
def wMay (n : Nat) (k : Int) (len : Nat) : Bool := decide (0 ≤ k ∧ k < n ∧ len = 4096)
def sCode (may : Bool) (left : Int) : Int := if may then (if left ≤ 0 then 0 else 17) else 2
def sLeft (may : Bool) (left : Int) : Int := if may then (if left ≤ 0 then left else left - 1) else left
def wBl (may : Bool) (left : Int) (bl : List ByteArray) (k : Int) (s : ByteArray) : List ByteArray := if may then (if left ≤ 0 then bl.set k.toNat s else bl) else bl
def rMay (n : Nat) (k : Int) : Bool := decide (0 ≤ k ∧ k < n)
def rStr (may : Bool) (left : Int) (bl : List ByteArray) (k : Int) : ByteArray := if may then (if left ≤ 0 then bl.getD k.toNat ⟨#[]⟩ else ⟨#[]⟩) else ⟨#[]⟩

/-- A slice value is of these bytes. -/
def RawIs (w : World) (v : Value) (s : ByteArray) : Prop := ∃ a cap, v = .slice a s.size cap ∧ (0 < s.size → ∃ b o, a = some ⟨b, o, none⟩ ∧ Bytes w b o s)

theorem RawIs.below {w w' : World} {v : Value} {s : ByteArray} (h : RawIs w v s) (b : Below w.heap.size w w') : RawIs w' v s := by
  obtain ⟨a, cap, h1, h2⟩ := h
  refine ⟨a, cap, h1, fun hp => ?_⟩
  obtain ⟨bb, o, h3, h4⟩ := h2 hp
  exact ⟨bb, o, h3, bytes_block h4 (b.block _ (World.block_lt_of_cell? w _ (h4 0 hp)))⟩

theorem raw_conv {w : World} {v : Value} {s : ByteArray} (h : RawIs w v s) : (convert 31 9 v).run Try.prog w = .ok (.string s) w := by
  obtain ⟨a, cap, rfl, h2⟩ := h
  by_cases hp : 0 < s.size
  · obtain ⟨b, o, rfl, h3⟩ := h2 hp
    exact run_convert_whole (P := Try.prog) w 31 5 9 Try.underlying31 Try.underlying5 Try.underlying9 b o s h3 cap
  · have h0 : s.size = 0 := by omega
    have hs : s = ⟨#[]⟩ := by
      apply ByteArray.ext; apply Array.eq_empty_of_size_eq_zero; exact h0
    rw [run_convert_bytes_string w 31 9 5 a s.size cap Try.underlying31 Try.underlying5 Try.underlying9, h0, hs]
    cases a with
    | none => simp [Conv.bytesToString]; rfl
    | some a => simp [Conv.bytesToString, loadCells, loadCellsFrom]; rfl

/-- What a call of the program's device leaves. -/
def DevDid (X : Nat → Prop) (d m n : Nat) (left : Int) (bl : List ByteArray) (code : Int) (w : World) (e : Ending) (w' : World) : Prop :=
  e = .returned (.int .i64 code) ∧ DevAt w' X d m n left bl ∧ Touch (fun i => i = d ∨ i = m) w w'

theorem dev_write_all {w : World} {X : Nat → Prop} {d m n : Nat} {left : Int} {bl : List ByteArray} (h : DevAt w X d m n left bl) (hl : left ≤ 9223372036854775807) (k : Int) (v : Value) (s : ByteArray) (hv : RawIs w v s) :
    Calls Try.prog 18 #[.pointer (some ⟨d, 0, none⟩), .int .i64 k, v] w (DevDid X d m n (sLeft (wMay n k s.size) left) (wBl (wMay n k s.size) left bl k s) (sCode (wMay n k s.size) left) w) := by
  obtain ⟨a, cap, rfl, h2⟩ := hv
  by_cases hm : 0 ≤ k ∧ k < n ∧ s.size = 4096
  · have e1 : wMay n k s.size = true := by simp [wMay]; exact hm
    obtain ⟨h0, hk, hs⟩ := hm
    rw [e1]
    obtain ⟨b, o, rfl, hb⟩ := h2 (by omega)
    by_cases hl0 : left ≤ 0
    · obtain ⟨j, rfl⟩ := Int.eq_ofNat_of_zero_le h0
      rw [hs]
      refine (dev_write h j (by omega) hl0 b o cap s hs hb).mono ?_
      rintro e w' ⟨he, hd, ht⟩
      refine ⟨by simpa [sCode, hl0] using he, by simpa [sLeft, wBl, hl0] using hd, ht.mono (fun _ _ h => .inr h)⟩
    · rw [hs]
      refine (dev_write_fail h k h0 hk (by omega) hl _ cap).mono ?_
      rintro e w' ⟨he, hw⟩
      refine ⟨by simpa [sCode, hl0] using he, by rw [← hw]; simpa [sLeft, wBl, hl0] using h.failed (left - 1), by rw [← hw]; exact Touch.setCell (Touch.refl _ w) (.inl (.inl rfl)) _⟩
  · have e1 : wMay n k s.size = false := by simp [wMay]; omega
    rw [e1]
    refine (dev_write_arg h k a s.size cap (by omega)).mono ?_
    rintro e w' ⟨he, hw⟩
    rw [← hw]
    exact ⟨he, h, Touch.refl _ _⟩

def DevReads (X : Nat → Prop) (d m n : Nat) (left : Int) (bl : List ByteArray) (s : ByteArray) (code : Int) (w : World) (e : Ending) (w' : World) : Prop :=
  ∃ v, e = .returned (.tuple #[v, .int .i64 code]) ∧ RawIs w' v s ∧ DevAt w' X d m n left bl ∧ Touch (fun i => i = d ∨ i = m) w w'

theorem dev_read_all {w : World} {X : Nat → Prop} {d m n : Nat} {left : Int} {bl : List ByteArray} (h : DevAt w X d m n left bl) (hl : left ≤ 9223372036854775807) (k : Int) :
    Calls Try.prog 20 #[.pointer (some ⟨d, 0, none⟩), .int .i64 k] w (DevReads X d m n (sLeft (rMay n k) left) bl (rStr (rMay n k) left bl k) (sCode (rMay n k) left) w) := by
  have hlen := h.len
  by_cases hm : 0 ≤ k ∧ k < n
  · have e1 : rMay n k = true := by simp [rMay]; exact hm
    obtain ⟨h0, hk⟩ := hm
    rw [e1]
    by_cases hl0 : left ≤ 0
    · obtain ⟨j, rfl⟩ := Int.eq_ofNat_of_zero_le h0
      have hj : j < bl.length := by omega
      refine (dev_read h j (by omega) hl0 bl[j] (List.getElem?_eq_getElem hj)).mono ?_
      rintro e w' ⟨r, he, hb, hbel, _, _⟩
      have hs := h.size bl[j] (List.getElem_mem hj)
      refine ⟨_, by simpa [sCode, hl0] using he, ?_, by simpa [sLeft, hl0] using h.keep (Touch.of_below hbel (fun _ => False)) (fun _ h => h.elim) (fun h => h) (fun h => h), Touch.of_below hbel _⟩
      have e2 : rStr true left bl (j : Int) = bl[j] := by simp [rStr, hl0, hj]
      rw [e2]
      exact ⟨_, _, by rw [hs], fun _ => ⟨r, 0, rfl, hb⟩⟩
    · refine (dev_read_fail h k h0 hk (by omega) hl).mono ?_
      rintro e w' ⟨he, hw⟩
      refine ⟨_, by simpa [sCode, hl0] using he, ?_, by rw [← hw]; simpa [sLeft, hl0] using h.failed (left - 1), by rw [← hw]; exact Touch.setCell (Touch.refl _ w) (.inl (.inl rfl)) _⟩
      have e2 : rStr true left bl k = ⟨#[]⟩ := by simp [rStr, hl0]
      rw [e2]
      exact ⟨none, 0, rfl, fun h => by simp [ByteArray.size] at h⟩
  · have e1 : rMay n k = false := by simp [rMay]; omega
    rw [e1]
    refine (dev_read_arg h k (by omega)).mono ?_
    rintro e w' ⟨he, hw⟩
    rw [← hw]
    exact ⟨_, he, ⟨none, 0, rfl, fun h => by simp [rStr, ByteArray.size] at h⟩, h, Touch.refl _ _⟩

theorem ref_write_all {w : World} {L : Nat} {v : Value} {left : Int} {bl : List ByteArray} (h : RefAt w L v left bl) (hLw : L ≤ w.heap.size) (hbl : bl.length ≤ 64) (hl : left ≤ 9223372036854775807) (k : Int) (s : ByteArray) :
    Calls Try.prog 23 #[v, .int .i64 k, .string s] w (RefWrote L (sLeft (wMay bl.length k s.size) left) (wBl (wMay bl.length k s.size) left bl k s) (sCode (wMay bl.length k s.size) left) w) := by
  by_cases hm : 0 ≤ k ∧ k < bl.length ∧ s.size = 4096
  · have e1 : wMay bl.length k s.size = true := by simp [wMay]; exact hm
    obtain ⟨h0, hk, hs⟩ := hm
    rw [e1]
    by_cases hl0 : left ≤ 0
    · obtain ⟨j, rfl⟩ := Int.eq_ofNat_of_zero_le h0
      have := ref_write_ok h hLw hbl j s (by omega) hs (by omega)
      simpa [sLeft, sCode, wBl, hl0] using this
    · have := ref_write_fail h k s h0 hk hs (by omega) hl
      simpa [sLeft, sCode, wBl, hl0] using this
  · have e1 : wMay bl.length k s.size = false := by simp [wMay]; omega
    rw [e1]
    exact ref_write_arg h k s (by omega)

theorem ref_read_all {w : World} {L : Nat} {v : Value} {left : Int} {bl : List ByteArray} (h : RefAt w L v left bl) (hl : left ≤ 9223372036854775807) (k : Int) :
    Calls Try.prog 24 #[v, .int .i64 k] w (RefRead L (sLeft (rMay bl.length k) left) bl (rStr (rMay bl.length k) left bl k) (sCode (rMay bl.length k) left) w) := by
  by_cases hm : 0 ≤ k ∧ k < bl.length
  · have e1 : rMay bl.length k = true := by simp [rMay]; exact hm
    obtain ⟨h0, hk⟩ := hm
    rw [e1]
    by_cases hl0 : left ≤ 0
    · obtain ⟨j, rfl⟩ := Int.eq_ofNat_of_zero_le h0
      have hj : j < bl.length := by omega
      have := ref_read_ok h j bl[j] (List.getElem?_eq_getElem hj) (by omega)
      simpa [sLeft, sCode, rStr, hl0, hj] using this
    · have := ref_read_fail h k h0 hk (by omega) hl
      simpa [sLeft, sCode, rStr, hl0] using this
  · have e1 : rMay bl.length k = false := by simp [rMay]; omega
    rw [e1]
    exact ref_read_arg h k (by omega)

theorem ref_write_n {w : World} {L n : Nat} {v : Value} {left : Int} {bl : List ByteArray} (h : RefAt w L v left bl) (hn : bl.length = n) (hLw : L ≤ w.heap.size) (hbl : n ≤ 64) (hl : left ≤ 9223372036854775807) (k : Int) (s : ByteArray) :
    Calls Try.prog 23 #[v, .int .i64 k, .string s] w (RefWrote L (sLeft (wMay n k s.size) left) (wBl (wMay n k s.size) left bl k s) (sCode (wMay n k s.size) left) w) := by
  subst hn; exact ref_write_all h hLw hbl hl k s
theorem ref_read_n {w : World} {L n : Nat} {v : Value} {left : Int} {bl : List ByteArray} (h : RefAt w L v left bl) (hn : bl.length = n) (hl : left ≤ 9223372036854775807) (k : Int) :
    Calls Try.prog 24 #[v, .int .i64 k] w (RefRead L (sLeft (rMay n k) left) bl (rStr (rMay n k) left bl k) (sCode (rMay n k) left) w) := by
  subst hn; exact ref_read_all h hl k

theorem sLeft_le (b : Bool) (left : Int) (h : left ≤ 9223372036854775807) : sLeft b left ≤ 9223372036854775807 := by
  unfold sLeft; split
  · split <;> omega
  · exact h
theorem wBl_length (b : Bool) (left : Int) (bl : List ByteArray) (k : Int) (s : ByteArray) : (wBl b left bl k s).length = bl.length := by
  unfold wBl; split
  · split <;> simp
  · rfl

theorem byte_of {x : Int} (h : (Lit.int .u8 x).wf = true) : ∃ u : UInt8, x = (u.toNat : Int) := by
  have hm : IntKind.u8.min = 0 := rfl
  have hM : IntKind.u8.max = 255 := rfl
  simp [Lit.wf] at h
  refine ⟨UInt8.ofNat x.toNat, ?_⟩
  rw [UInt8.toNat_ofNat_of_lt' (by show _ < 256; omega)]; omega

/-! ### A row of steps -/
/-- At a place of a block lies a step. -/
def ActAt (w : World) (b p : Nat) (kd nn at_ : Int) (u : UInt8) (v : Value) (s : ByteArray) : Prop :=
  w.cell? ⟨b, p, none⟩ = some (.int .i64 kd) ∧ w.cell? ⟨b, p + 1, none⟩ = some (.int .i64 nn) ∧ w.cell? ⟨b, p + 2, none⟩ = some (.int .i64 at_) ∧ w.cell? ⟨b, p + 3, none⟩ = some (.int .u8 (u.toNat : Int)) ∧
    w.cell? ⟨b, p + 4, none⟩ = some v ∧ RawIs w v s ∧ nn ≤ 9223372036854775807
def ActsAt (w : World) (v : Value) : Prop :=
  ∃ a n cap, v = .slice a n cap ∧ n ≤ maxLen ∧ (0 < n → ∃ b o, a = some ⟨b, o, none⟩ ∧ ∀ i, i < n → ∃ kd nn at_ u v s, ActAt w b (o + i * 5) kd nn at_ u v s)

theorem ActAt.below {w w' : World} {b p : Nat} {kd nn at_ : Int} {u : UInt8} {v : Value} {s : ByteArray} (h : ActAt w b p kd nn at_ u v s) (hb : Below w.heap.size w w') : ActAt w' b p kd nn at_ u v s := by
  obtain ⟨h1, h2, h3, h4, h5, h6, h7⟩ := h
  have e := hb.block b (World.block_lt_of_cell? w _ h1)
  refine ⟨?_, ?_, ?_, ?_, ?_, h6.below hb, h7⟩
  · rw [World.cell?_of_block (w := w) e]; exact h1
  · rw [World.cell?_of_block (w := w) e]; exact h2
  · rw [World.cell?_of_block (w := w) e]; exact h3
  · rw [World.cell?_of_block (w := w) e]; exact h4
  · rw [World.cell?_of_block (w := w) e]; exact h5

end Go.Proofs.Ytcdfidojddlgpaa
