/- The ends of a capability's span: contracts. -/
import Derived.Test.YthlgkicidbagbaaLook
namespace Go.Proofs.Ythlgkicidbagbaa
set_option maxRecDepth 100000
open Go Go.RowKit Go.ChangeMaps Go.Lib
set_option linter.unusedVariables false


theorem alg_base (t : Bool) (m a : Nat) (w : World) (hm : m < 18446744073709551616) (ha : a < 18446744073709551616) :
    Calls Try.prog 28 #[.agg #[.bool t, .int .u64 m, .int .u64 a]] w (fun e w' => e = .returned (.int .u64 (loOf m a)) ∧ Below w.heap.size w w') := by
  go_enter Try.func28, Try.ntmps28
  go_wp2_with (first | (go_at_call 40; go_in) | fail)
  go_in
  go_wp2_with fail
  refine (capab_look t m a _ hm ha).mono ?_
  rintro e w1 ⟨rfl, hb1⟩
  have HB1 : Hid (Below w.heap.size w w1) := Lib.hid ((((((Below.refl _ _).alloc (Nat.le_refl _) _).alloc (by simp) _).alloc (by simp; omega) _).alloc (by simp; omega) _).trans (hb1.mono (by simp; omega)))
  have lt1 : w.heap.size + 1 + 1 < w1.heap.size := by have q := hb1.size; simp at q; omega
  have y0 := (bcell hb1).1 (w.heap.size + 1 + 1) 0 (by simp)
  have y1 : w1.cell? ⟨w.heap.size + 1 + 1, 0, none⟩ = some (.func (.func 41) #[] #[]) := y0.trans (cell_of_blk (blk_alloc_old (blk_alloc_new' _ _ _ (by simp)) _) 0)
  have y2 : ∀ o1 o2, ((w1.alloc o1).alloc o2).cell? ⟨w.heap.size + 1 + 1, 0, none⟩ = some (.func (.func 41) #[] #[]) := fun o1 o2 => by
    rw [World.cell?_alloc_lt _ _ _ (by simp; omega), World.cell?_alloc_lt _ _ _ lt1]; exact y1
  clear hb1 y0
  go_wp2_with fail
  go_in
  go_wp2_with fail
  go_in
  go_wp2
  go_ret
  have sz1 := HB1.out.size
  exact ⟨rfl, by repeat (first | exact HB1.out | refine Below.alloc ?_ (by first | omega | (simp; omega)) _)⟩

theorem alg_top (t : Bool) (m a : Nat) (w : World) (hm : m < 18446744073709551616) (ha : a < 18446744073709551616) :
    Calls Try.prog 29 #[.agg #[.bool t, .int .u64 m, .int .u64 a]] w (fun e w' => e = .returned (.int .u64 (hiOf m a)) ∧ Below w.heap.size w w') := by
  go_enter Try.func29, Try.ntmps29
  go_wp2_with (first | (go_at_call 40; go_in) | fail)
  go_in
  go_wp2_with fail
  refine (capab_look t m a _ hm ha).mono ?_
  rintro e w1 ⟨rfl, hb1⟩
  have HB1 : Hid (Below w.heap.size w w1) := Lib.hid ((((((Below.refl _ _).alloc (Nat.le_refl _) _).alloc (by simp) _).alloc (by simp; omega) _).alloc (by simp; omega) _).trans (hb1.mono (by simp; omega)))
  have lt1 : w.heap.size + 1 + 1 < w1.heap.size := by have q := hb1.size; simp at q; omega
  have y0 := (bcell hb1).1 (w.heap.size + 1 + 1) 0 (by simp)
  have y1 : w1.cell? ⟨w.heap.size + 1 + 1, 0, none⟩ = some (.func (.func 42) #[] #[]) := y0.trans (cell_of_blk (blk_alloc_old (blk_alloc_new' _ _ _ (by simp)) _) 0)
  have y2 : ∀ o1 o2, ((w1.alloc o1).alloc o2).cell? ⟨w.heap.size + 1 + 1, 0, none⟩ = some (.func (.func 42) #[] #[]) := fun o1 o2 => by
    rw [World.cell?_alloc_lt _ _ _ (by simp; omega), World.cell?_alloc_lt _ _ _ lt1]; exact y1
  clear hb1 y0
  go_wp2_with fail
  go_in
  go_wp2_with fail
  go_in
  go_wp2
  go_ret
  have sz1 := HB1.out.size
  exact ⟨rfl, by repeat (first | exact HB1.out | refine Below.alloc ?_ (by first | omega | (simp; omega)) _)⟩
end Go.Proofs.Ythlgkicidbagbaa
