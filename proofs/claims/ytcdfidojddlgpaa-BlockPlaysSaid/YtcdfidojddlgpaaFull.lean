/- The law's own helper that makes a block's bytes: a contract. -/
import Derived.Test.YtcdfidojddlgpaaBlk
namespace Go.Proofs.Ytcdfidojddlgpaa
set_option maxRecDepth 100000
open Go Go.RowKit Go.ChangeMaps Go.Lib

/-- 4096 bytes, all of which are u, but for one at a place. -/
def fullBytes (u : UInt8) (at_ : Int) : ByteArray := ⟨(Array.replicate 4096 u).set! (at_ % 4096).toNat (u + 1)⟩
theorem full_size (u : UInt8) (a : Int) : (fullBytes u a).size = 4096 := by simp [fullBytes, ByteArray.size]
theorem full_at (u : UInt8) (a : Int) (i : Nat) (h : i < (fullBytes u a).size) : (fullBytes u a)[i] = if i = (a % 4096).toNat then u + 1 else u := by
  show (fullBytes u a).data[i] = _
  have h' : i < 4096 := by rw [full_size] at h; exact h
  simp only [fullBytes, Array.set!_eq_setIfInBounds]
  rw [Array.getElem_setIfInBounds (by simpa using h')]
  split
  · rename_i e; rw [if_pos e.symm]
  · rename_i e; rw [if_neg (Ne.symm e)]; simp

/-- What a call that makes bytes tells. -/
def MadeBytes (s : ByteArray) (w : World) (e : Ending) (w' : World) : Prop :=
  ∃ r, e = .returned (.slice (some ⟨r, 0, none⟩) 4096 4096) ∧ Bytes w' r 0 s ∧ Below w.heap.size w w' ∧ w.heap.size ≤ r ∧ r < w'.heap.size

/-- The loop's relation: the first k bytes are laid. -/
def Laid (w : World) (box : Array Value) (bt : TypeId) (u : UInt8) (k : Nat) (wr : World) : Prop :=
  ∃ c, wr.heap[w.heap.size + 1]? = some (.cells c 5 (0, 0)) ∧ c.size = 4096 ∧ (∀ j, j < k → c[j]? = some (.int .u8 (u.toNat : Int))) ∧ wr.heap[w.heap.size]? = some (.cells box bt (0, 0)) ∧ Below w.heap.size w wr

theorem u8_add1 (u : UInt8) : ((u.toNat : Int) + 1) % 256 = ((u + 1).toNat : Int) := by
  rw [UInt8.toNat_add]; simp

set_option maxHeartbeats 1000000 in
theorem full_any (kd nn at_ : Int) (u : UInt8) (ra : Option Addr) (rl rc : Nat) (w : World) :
    Calls Try.prog 17 #[.agg #[.int .i64 kd, .int .i64 nn, .int .i64 at_, .int .u8 (u.toNat : Int), .slice ra rl rc]] w (MadeBytes (fullBytes u at_) w) := by
  have hmk := run_make4096
  have ha := i64_and4095 at_
  have ha0 : 0 ≤ at_ % 4096 := Int.emod_nonneg _ (by omega)
  have ha1 : at_ % 4096 < 4096 := Int.emod_lt_of_pos _ (by omega)
  go_enter Try.func17, Try.ntmps17
  go_wp2_with fail
  go_loopw [4] (fun i wr => ∃ k : Nat, k ≤ 4096 ∧ i = .int .i64 k ∧ Laid w #[.int .i64 kd, .int .i64 nn, .int .i64 at_, .int .u8 (u.toNat : Int), .slice ra rl rc] 52 u k wr) (fun i _ => 4096 - (RowKit.intOf i).toNat)
  case atStart =>
    refine ⟨0, by omega, rfl, zeroRow, ?_, zeroRow_size, fun j hj => by omega, ?_, ((Below.refl _ _).alloc (Nat.le_refl _) _).alloc (by simp) _⟩
    · have := blk_alloc_new (w.alloc (.cells #[.int .i64 kd, .int .i64 nn, .int .i64 at_, .int .u8 (u.toNat : Int), .slice ra rl rc] 52)) (.cells zeroRow 5)
      simpa using this
    · exact blk_alloc_old (blk_alloc_new w _) _
  case round =>
    obtain ⟨k, hk, rfl, c, hc, hcs, hcj, hbox, hbel⟩ := hrel
    have c0 : wr.cell? ⟨w.heap.size, 3, none⟩ = some (.int .u8 (u.toNat : Int)) := by rw [cell_of_blk hbox]; rfl
    have c1 : wr.cell? ⟨w.heap.size, 2, none⟩ = some (.int .i64 at_) := by rw [cell_of_blk hbox]; rfl
    by_cases hlt : k < 4096
    · obtain ⟨v2, c2⟩ : ∃ v, wr.cell? ⟨w.heap.size + 1, k, none⟩ = some v := ⟨c[k]'(by omega), by rw [cell_of_blk hc]; simp⟩
      have f2 : wr.frozen? ⟨w.heap.size + 1, k, none⟩ = false := free_of_blk hc k
      have HC := Lib.hid hc; have HS := Lib.hid hcs; have HJ := Lib.hid hcj; have HB := Lib.hid hbox; have HL := Lib.hid hbel
      clear hc hcs hcj hbox hbel
      go_wp2
      go_roundw
      case rel =>
        refine ⟨k + 1, by omega, by go_num, _, blk_setCell HC.out k _, by rw [Array.size_setIfInBounds]; exact HS.out, fun j hj => ?_, ?_, HL.out.setCell (by simp) _⟩
        · rw [Array.getElem?_setIfInBounds]
          split
          · rw [if_pos (by rw [HS.out]; omega)]
          · exact HJ.out j (by omega)
        · exact (blk_setCell_ne (by simp) _).trans HB.out
      case measure => simp [RowKit.intOf]; omega
    · obtain rfl : k = 4096 := by omega
      obtain ⟨p, hp, hp4⟩ : ∃ p : Nat, at_ % 4096 = p ∧ p < 4096 := ⟨(at_ % 4096).toNat, by omega, by omega⟩
      obtain ⟨v2, c2⟩ : ∃ v, wr.cell? ⟨w.heap.size + 1, p, none⟩ = some v := ⟨c[p]'(by omega), by rw [cell_of_blk hc]; simp⟩
      have f2 : wr.frozen? ⟨w.heap.size + 1, p, none⟩ = false := free_of_blk hc p
      have HC := Lib.hid hc; have HS := Lib.hid hcs; have HJ := Lib.hid hcj; have HB := Lib.hid hbox; have HL := Lib.hid hbel
      clear hc hcs hcj hbox hbel
      rw [hp] at ha
      have HP := Lib.hid hp
      clear hp
      go_wp2
      go_ret
      refine ⟨w.heap.size + 1, rfl, ?_, HL.out.setCell (by simp) _, by omega, ?_⟩
      · refine bytes_of_list (blk_setCell HC.out p _) 0 fun i hi => ?_
        rw [byteCells_at _ _ hi, full_at, Nat.zero_add, Array.getElem?_setIfInBounds, HP.out]
        have hi4 : i < 4096 := by rw [full_size] at hi; exact hi
        by_cases e : p = i
        · subst e; rw [if_pos rfl, if_pos (by rw [HS.out]; exact hi4), if_pos (by simp), u8_add1]
        · rw [if_neg e, if_neg (by simp; omega), HJ.out i hi4]
      · have := blk_lt (blk_setCell HC.out p (.int .u8 ((u + 1).toNat : Int))); exact this

end Go.Proofs.Ytcdfidojddlgpaa
