/- Fields of words: contracts. -/
import Derived.Test.YthlgkicidbagbaaKit
import Derived.Test.YthlgkicidbagbaaChecked
import Derived.Laws.Bits64b
import Derived.BigRegion
import Derived.BigQuiet
import Derived.Deep.QuietTactic
import Derived.Outline
namespace Go.Proofs.Ythlgkicidbagbaa
set_option maxRecDepth 100000
open Go Go.RowKit Go.ChangeMaps Go.Lib
set_option linter.unusedVariables false

theorem Below_drewN {B : Nat} {a w : World} (h : Below B a w) (n : Nat) : Below B a (w.drewN n) := h.trans ⟨rfl, rfl, rfl, Nat.le_refl _, fun _ _ => rfl⟩
theorem pow_le_64 {b : Nat} (hb : b ≤ 64) : 2 ^ b ≤ 18446744073709551616 := Nat.pow_le_pow_right (n := 2) (by omega) hb
theorem u64_mask (x b : Nat) (hx : x < 18446744073709551616) (hb : b ≤ 64) : bits .and .u64 (x : Int) (((2 ^ b - 1 : Nat)) : Int) = ((x % 2 ^ b : Nat) : Int) := by
  have := pow_le_64 hb
  have hp : 0 < 2 ^ b := Nat.two_pow_pos b
  rw [bits_and_u64_nat _ _ hx (by omega), Nat.and_two_pow_sub_one_eq_mod]

theorem field_mask (b : Nat) (w : World) (hb : b ≤ 64) : Calls Try.prog 50 #[.int .i64 b] w (fun e w' => e = .returned (.int .u64 ((2 ^ b - 1 : Nat) : Int)) ∧ w' = w) := by
  rcases (show b = 0 ∨ b = 64 ∨ 1 ≤ b ∧ b < 64 by omega) with rfl | rfl | ⟨h1, h2⟩
  · go_enter Try.func50, Try.ntmps50
    go_wp2
    go_ret
    exact ⟨rfl, rfl⟩
  · go_enter Try.func50, Try.ntmps50
    go_wp2
    go_ret
    exact ⟨rfl, rfl⟩
  · have hp : 2 ^ b ≤ 9223372036854775808 := Nat.pow_le_pow_right (n := 2) (j := 63) (by omega) (by omega)
    have hp0 : 0 < 2 ^ b := Nat.two_pow_pos b
    have e : IntKind.u64.wrap (IntKind.u64.wrap (2 ^ b) - 1) = ((2 ^ b - 1 : Nat) : Int) := by
      rw [IntKind.wrap_u64, IntKind.wrap_u64]
      have : ((2 : Int) ^ b) = ((2 ^ b : Nat) : Int) := by simp
      omega
    go_enter Try.func50, Try.ntmps50
    go_wp2
    go_ret
    exact ⟨rfl, rfl⟩

theorem field_may (a b : Nat) (w : World) (h : a + b ≤ 64) : Calls Try.prog 49 #[.int .i64 a, .int .i64 b] w (fun e w' => e = .returned (.bool true) ∧ w' = w) := by
  have h1 : (a : Int) ≤ 64 - (b : Int) := by omega
  have h2 : (0 : Int) ≤ a := by omega
  have h3 : (0 : Int) ≤ b := by omega
  have h4 : (b : Int) ≤ 64 := by omega
  go_enter Try.func49, Try.ntmps49
  go_wp2
  go_ret
  exact ⟨rfl, rfl⟩

theorem field_get (x a b : Nat) (w : World) (hx : x < 18446744073709551616) (h : a + b ≤ 64) :
    Calls Try.prog 39 #[.int .u64 x, .int .i64 a, .int .i64 b] w (fun e w' => e = .returned (.int .u64 ((x / 2 ^ a % 2 ^ b : Nat) : Int)) ∧ ∃ n, w' = w.drewN n) := by
  have hm := u64_mask (x / 2 ^ a) b (Nat.lt_of_le_of_lt (Nat.div_le_self _ _) hx) (by omega)
  have HM := Lib.hid hm
  clear hm
  go_enter Try.func39, Try.ntmps39
  go_wp2_with (first | (go_at_call 49; (with_reducible refine (field_may _ _ _ h).mono ?_); rintro e w' ⟨rfl, rfl⟩) | fail)
  go_quiet ((go_at_call 50; exact Calls.quiet_of_same (field_mask _ _ (by omega))))
  go_wp2
  go_ret
  exact ⟨by rw [← HM.out]; simp, nq, rfl⟩
theorem field_get' (x : Nat) (A B : Int) (a b : Nat) (w : World) (hA : A = a) (hB : B = b) (hx : x < 18446744073709551616) (h : a + b ≤ 64) :
    Calls Try.prog 39 #[.int .u64 x, .int .i64 A, .int .i64 B] w (fun e w' => e = .returned (.int .u64 ((x / 2 ^ a % 2 ^ b : Nat) : Int)) ∧ ∃ n, w' = w.drewN n) := by
  subst hA; subst hB; exact field_get x a b w hx h
end Go.Proofs.Ythlgkicidbagbaa
