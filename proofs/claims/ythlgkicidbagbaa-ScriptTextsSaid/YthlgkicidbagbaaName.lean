/- An instruction's line and name: contracts. -/
import Derived.Test.YthlgkicidbagbaaInst
import Derived.StillTailTactics
namespace Go.Proofs.Ythlgkicidbagbaa
set_option maxRecDepth 100000
open Go Go.RowKit Go.ChangeMaps Go.Lib
set_option linter.unusedVariables false

def nameOf (z : Int) : List UInt8 := if 1 ≤ z ∧ z ≤ 69 then (instLine (z - 1).toNat).1 else []
def lineOf (z : Int) : Value := if 1 ≤ z ∧ z ≤ 69 then .tuple #[.agg (instRow (instLine (z - 1).toNat)).toArray, .bool true] else .tuple #[.agg #[.string ByteArray.empty, .int .u8 0, .int .u64 0, .int .u64 0, .int .u64 0], .bool false]

theorem of_in (z : Int) (n : Nat) (hz : z = n + 1) (hn : n < 69) (w : World) :
    Calls Try.prog 26 #[.int .i64 z] w (fun e w' => e = .returned (.tuple #[.agg (instRow (instLine n)).toArray, .bool true]) ∧ Below w.heap.size w w') := by
  subst hz
  have h1 : (decide ((n : Int) + 1 < 1)) = false := by simp; omega
  have h2 : (decide ((69 : Int) < (n : Int) + 1)) = false := by simp; omega
  have h3 : (0 : Int) ≤ n := by omega
  have h4 : (n : Int) < 69 := by omega
  have ix := inst_index n hn
  generalize instLine n = r at *
  obtain ⟨nm, a, b, c, d⟩ := r
  simp only [instRow] at *
  go_enter Try.func26, Try.ntmps26
  go_wp2_with fail
  refine (rows_any _).mono ?_
  rintro e w1 ⟨rfl, hb1⟩
  have HB1 := Lib.hid hb1
  have z1 : w1.heap[w.heap.size]? = some (.cells #[.string ByteArray.empty, .int .u8 0, .int .u64 0, .int .u64 0, .int .u64 0] 72 (0, 0)) := (hb1.block _ (by simp)).trans (blk_alloc_new w _)
  have f0 : ∀ o, w1.frozen? ⟨w.heap.size, o, none⟩ = false := fun o => free_of_blk z1 o
  have c0 : w1.cell? ⟨w.heap.size, 0, none⟩ = some (.string ByteArray.empty) := cell_of_blk z1 _
  have c1 : w1.cell? ⟨w.heap.size, 1, none⟩ = some (.int .u8 0) := cell_of_blk z1 _
  have c2 : w1.cell? ⟨w.heap.size, 2, none⟩ = some (.int .u64 0) := cell_of_blk z1 _
  have c3 : w1.cell? ⟨w.heap.size, 3, none⟩ = some (.int .u64 0) := cell_of_blk z1 _
  have c4 : w1.cell? ⟨w.heap.size, 4, none⟩ = some (.int .u64 0) := cell_of_blk z1 _
  clear hb1 z1
  have ix1 := ix w1
  clear ix
  generalize instCells.toArray = cs at *
  go_wp2
  have hb : Below w.heap.size w w1 := (alloc_below' w _).trans (HB1.out.mono (by simp))
  exact bodyPost_ret (v := .tuple #[.agg #[.string ⟨nm.toArray⟩, .int .u8 a, .int .u64 b, .int .u64 c, .int .u64 d], .bool true]) (by simp [results, Try.results26, go_sem, c0, c1, c2, c3, c4]) rfl ⟨rfl, ((((hb.setCell (by simp) _).setCell (by simp) _).setCell (by simp) _).setCell (by simp) _).setCell (by simp) _⟩
theorem of_out (z : Int) (hz : z < 1 ∨ 69 < z) (w : World) :
    Calls Try.prog 26 #[.int .i64 z] w (fun e w' => e = .returned (.tuple #[.agg #[.string ByteArray.empty, .int .u8 0, .int .u64 0, .int .u64 0, .int .u64 0], .bool false]) ∧ Below w.heap.size w w') := by
  by_cases h1 : z < 1
  · have h2 : decide (z < 1) = true := by simpa using h1
    go_enter Try.func26, Try.ntmps26
    go_wp2
    exact bodyPost_ret (v := .tuple #[.agg #[.string ByteArray.empty, .int .u8 0, .int .u64 0, .int .u64 0, .int .u64 0], .bool false]) (by simp [results, Try.results26, go_sem]; rfl) rfl ⟨rfl, alloc_below' w _⟩
  · have h2 : decide (z < 1) = false := by simpa using h1
    have h3 : decide (69 < z) = true := by simp; omega
    go_enter Try.func26, Try.ntmps26
    go_wp2
    exact bodyPost_ret (v := .tuple #[.agg #[.string ByteArray.empty, .int .u8 0, .int .u64 0, .int .u64 0, .int .u64 0], .bool false]) (by simp [results, Try.results26, go_sem]; rfl) rfl ⟨rfl, alloc_below' w _⟩

theorem name_in (z : Int) (n : Nat) (hz : z = n + 1) (hn : n < 69) (w : World) :
    Calls Try.prog 16 #[.int .i64 z] w (fun e w' => e = .returned (.string ⟨(instLine n).1.toArray⟩) ∧ Below w.heap.size w w') := by
  have H := fun w => of_in z n hz hn w
  generalize instLine n = r at *
  obtain ⟨nm, a, b, c, d⟩ := r
  simp only [instRow] at *
  clear hz hn
  go_enter Try.func16, Try.ntmps16
  go_wp2_with fail
  refine (H _).mono ?_
  rintro e w1 ⟨rfl, hb1⟩
  have HB1 := Lib.hid hb1
  clear hb1 H
  go_wp2
  go_ret
  exact ⟨rfl, HB1.out.alloc HB1.out.size _⟩
theorem name_out (z : Int) (hz : z < 1 ∨ 69 < z) (w : World) :
    Calls Try.prog 16 #[.int .i64 z] w (fun e w' => e = .returned (.string ByteArray.empty) ∧ Below w.heap.size w w') := by
  have H := fun w => of_out z hz w
  clear hz
  go_enter Try.func16, Try.ntmps16
  go_wp2_with fail
  refine (H _).mono ?_
  rintro e w1 ⟨rfl, hb1⟩
  have HB1 := Lib.hid hb1
  clear hb1 H
  go_wp2
  go_ret
  exact ⟨rfl, HB1.out.alloc HB1.out.size _⟩
/-- An instruction's name; none for what is no instruction's number. -/
def nameS (z : Int) : ByteArray := if 1 ≤ z ∧ z ≤ 69 then ⟨(instLine (z - 1).toNat).1.toArray⟩ else ByteArray.empty
theorem name_any (z : Int) (w : World) : Calls Try.prog 16 #[.int .i64 z] w (fun e w' => e = .returned (.string (nameS z)) ∧ Below w.heap.size w w') := by
  unfold nameS
  by_cases h : 1 ≤ z ∧ z ≤ 69
  · rw [if_pos h]; exact name_in z (z - 1).toNat (by omega) (by omega) w
  · rw [if_neg h]; exact name_out z (by omega) w
theorem name_size (z : Int) : (nameS z).size ≤ 20 := by
  unfold nameS
  split
  · rename_i h
    have hn : (z - 1).toNat < 69 := by omega
    generalize (z - 1).toNat = n at hn
    have : (List.range 69).all (fun n => decide ((instLine n).1.length ≤ 20)) = true := by decide +kernel
    have := List.all_eq_true.1 this n (by simpa using hn)
    exact of_decide_eq_true this
  · exact Nat.zero_le _
end Go.Proofs.Ythlgkicidbagbaa
