/- The fields of a span, as a word: contracts. -/
import Derived.Test.YthlgkicidbagbaaField
namespace Go.Proofs.Ythlgkicidbagbaa
set_option maxRecDepth 100000
open Go Go.RowKit Go.ChangeMaps Go.Lib
set_option linter.unusedVariables false

def widthsAre : Value := .agg #[.int .i64 14, .int .i64 12, .int .i64 6]
theorem widths_any (w : World) : Calls Try.prog 48 #[] w (fun e w' => e = .returned widthsAre ∧ Below w.heap.size w w') := by
  go_enter Try.func48, Try.ntmps48
  go_wp2
  exact bodyPost_ret (v := widthsAre) (by simp [results, Try.results48, go_sem]; rfl) rfl ⟨rfl, (Below.refl _ _).alloc (Nat.le_refl _) _⟩

theorem width_ix (w : World) : (Instr.index 106 widthsAre (.int .i64 0)).run Try.prog w = .ok (.int .i64 14) w ∧ (Instr.index 106 widthsAre (.int .i64 1)).run Try.prog w = .ok (.int .i64 12) w ∧ (Instr.index 106 widthsAre (.int .i64 2)).run Try.prog w = .ok (.int .i64 6) w := by
  refine ⟨?_, ?_, ?_⟩ <;> kernel_rfl

def ofCells (x : Nat) : Nat → Array Value
  | 0 => #[.int .u64 0, .int .u64 0, .int .u64 0]
  | 1 => #[.int .u64 ((x % 16384 : Nat) : Int), .int .u64 0, .int .u64 0]
  | 2 => #[.int .u64 ((x % 16384 : Nat) : Int), .int .u64 ((x / 16384 % 4096 : Nat) : Int), .int .u64 0]
  | _ => #[.int .u64 ((x % 16384 : Nat) : Int), .int .u64 ((x / 16384 % 4096 : Nat) : Int), .int .u64 ((x / 67108864 % 64 : Nat) : Int)]
def ofAt : Nat → Int
  | 0 => 0
  | 1 => 14
  | 2 => 26
  | _ => 32
theorem bounds_of (x : Nat) (w : World) (hx : x < 18446744073709551616) :
    Calls Try.prog 38 #[.int .u64 x] w (fun e w' => e = .returned (.agg (ofCells x 3)) ∧ Below w.heap.size w w') := by
  go_enter Try.func38, Try.ntmps38
  go_wp2_with (first | (go_at_call 48; (with_reducible refine (widths_any _).mono ?_); rintro e w1 ⟨rfl, hb1⟩; have HB1 := Lib.hid hb1; clear hb1) | fail)
  have z1 : w1.heap[w.heap.size + 1]? = some (.cells #[.int .u64 0, .int .u64 0, .int .u64 0] 105 (0, 0)) := (HB1.out.block _ (by simp)).trans (blk_alloc_new' _ _ _ (by simp))
  have z2 : w1.heap[w.heap.size]? = some (.cells #[.int .u64 0, .int .u64 0, .int .u64 0] 93 (0, 0)) := (HB1.out.block _ (by simp; omega)).trans (blk_alloc_old (blk_alloc_new w _) _)
  have HB : Hid (Below w.heap.size w w1) := Lib.hid ((((Below.refl _ _).alloc (Nat.le_refl _) _).alloc (by simp) _).trans (HB1.out.mono (by simp; omega)))
  have Z1 := Lib.hid z1; have Z2 := Lib.hid z2
  clear z1 z2 HB1
  go_loopw [4, 8] (fun v4 v8 wr => ∃ k : Nat, k ≤ 3 ∧ v8 = .int .i64 k ∧ v4 = .int .i64 (ofAt k) ∧ wr.heap[w.heap.size + 1]? = some (.cells (ofCells x k) 105 (0, 0)) ∧ wr.heap[w.heap.size]? = some (.cells #[.int .u64 0, .int .u64 0, .int .u64 0] 93 (0, 0)) ∧ Below w.heap.size w wr) (fun _ v8 _ => 3 - (RowKit.intOf v8).toNat)
  case atStart => exact ⟨0, by omega, rfl, rfl, Z1.out, Z2.out, HB.out⟩
  case round =>
    obtain ⟨k, hk, rfl, rfl, hA, hR, hbel⟩ := hrel
    have HA := Lib.hid hA; have HR := Lib.hid hR; have HBE := Lib.hid hbel
    clear hA hR hbel
    rcases (show k = 0 ∨ k = 1 ∨ k = 2 ∨ k = 3 by omega) with rfl | rfl | rfl | rfl
    · have f0 : wr.frozen? ⟨w.heap.size + 1, 0, none⟩ = false := free_of_blk HA.out _
      have f1 : ∀ n, (wr.drewN n).frozen? ⟨w.heap.size + 1, 0, none⟩ = false := fun _ => f0
      have c1 : ∀ n, (wr.drewN n).cell? ⟨w.heap.size + 1, 0, none⟩ = some (.int .u64 0) := fun _ => (cell_of_blk HA.out _).trans rfl
      obtain ⟨ix, -, -⟩ := width_ix wr
      rw [show ofAt 0 = 0 from rfl, show ((0 : Nat) : Int) = 0 from rfl]
      go_wp2_with fail
      refine (field_get' x _ _ 0 14 _ rfl rfl hx (by omega)).mono ?_
      rintro e w2 ⟨rfl, n, rfl⟩
      go_wp2
      go_round
      case rel =>
        refine ⟨1, by omega, rfl, rfl, ?_, ?_, ?_⟩
        · rw [blk_setCell (w := wr.drewN n) HA.out]
          simp [ofCells]
        · rw [blk_setCell_ne (w := wr.drewN n) (by simp)]; exact HR.out
        · exact (Below_drewN HBE.out n).setCell (by simp) _
      case measure => simp [RowKit.intOf]
    · have f0 : wr.frozen? ⟨w.heap.size + 1, 1, none⟩ = false := free_of_blk HA.out _
      have f1 : ∀ n, (wr.drewN n).frozen? ⟨w.heap.size + 1, 1, none⟩ = false := fun _ => f0
      have c1 : ∀ n, (wr.drewN n).cell? ⟨w.heap.size + 1, 1, none⟩ = some (.int .u64 0) := fun _ => (cell_of_blk HA.out _).trans rfl
      obtain ⟨-, ix, -⟩ := width_ix wr
      rw [show ofAt 1 = 14 from rfl, show ((1 : Nat) : Int) = 1 from rfl]
      go_wp2_with fail
      refine (field_get' x _ _ 14 12 _ rfl rfl hx (by omega)).mono ?_
      rintro e w2 ⟨rfl, n, rfl⟩
      go_wp2
      go_round
      case rel =>
        refine ⟨2, by omega, rfl, rfl, ?_, ?_, ?_⟩
        · rw [blk_setCell (w := wr.drewN n) HA.out]
          simp [ofCells]
        · rw [blk_setCell_ne (w := wr.drewN n) (by simp)]; exact HR.out
        · exact (Below_drewN HBE.out n).setCell (by simp) _
      case measure => simp [RowKit.intOf]
    · have f0 : wr.frozen? ⟨w.heap.size + 1, 2, none⟩ = false := free_of_blk HA.out _
      have f1 : ∀ n, (wr.drewN n).frozen? ⟨w.heap.size + 1, 2, none⟩ = false := fun _ => f0
      have c1 : ∀ n, (wr.drewN n).cell? ⟨w.heap.size + 1, 2, none⟩ = some (.int .u64 0) := fun _ => (cell_of_blk HA.out _).trans rfl
      obtain ⟨-, -, ix⟩ := width_ix wr
      rw [show ofAt 2 = 26 from rfl, show ((2 : Nat) : Int) = 2 from rfl]
      go_wp2_with fail
      refine (field_get' x _ _ 26 6 _ rfl rfl hx (by omega)).mono ?_
      rintro e w2 ⟨rfl, n, rfl⟩
      go_wp2
      go_round
      case rel =>
        refine ⟨3, by omega, rfl, rfl, ?_, ?_, ?_⟩
        · rw [blk_setCell (w := wr.drewN n) HA.out]
          simp [ofCells]
        · rw [blk_setCell_ne (w := wr.drewN n) (by simp)]; exact HR.out
        · exact (Below_drewN HBE.out n).setCell (by simp) _
      case measure => simp [RowKit.intOf]
    · have c0 : wr.cell? ⟨w.heap.size + 1, 0, none⟩ = some (.int .u64 ((x % 16384 : Nat) : Int)) := (cell_of_blk HA.out _).trans rfl
      have c1 : wr.cell? ⟨w.heap.size + 1, 1, none⟩ = some (.int .u64 ((x / 16384 % 4096 : Nat) : Int)) := (cell_of_blk HA.out _).trans rfl
      have c2 : wr.cell? ⟨w.heap.size + 1, 2, none⟩ = some (.int .u64 ((x / 67108864 % 64 : Nat) : Int)) := (cell_of_blk HA.out _).trans rfl
      have f0 : ∀ j, wr.frozen? ⟨w.heap.size, j, none⟩ = false := fun _ => free_of_blk HR.out _
      have g0 : wr.frozen? ⟨w.heap.size, 0, none⟩ = false := f0 0
      have g1 : wr.frozen? ⟨w.heap.size, 1, none⟩ = false := f0 1
      have g2 : wr.frozen? ⟨w.heap.size, 2, none⟩ = false := f0 2
      clear f0
      have d0 : wr.cell? ⟨w.heap.size, 0, none⟩ = some (.int .u64 0) := (cell_of_blk HR.out _).trans rfl
      have d1 : wr.cell? ⟨w.heap.size, 1, none⟩ = some (.int .u64 0) := (cell_of_blk HR.out _).trans rfl
      have d2 : wr.cell? ⟨w.heap.size, 2, none⟩ = some (.int .u64 0) := (cell_of_blk HR.out _).trans rfl
      go_wp2
      exact bodyPost_ret (v := .agg (ofCells x 3)) (by simp [results, Try.results38, go_sem, d0, d1, d2, ofCells]) rfl ⟨rfl, ((HBE.out.setCell (by simp) _).setCell (by simp) _).setCell (by simp) _⟩

/-! ### Put, and the word of fields -/
theorem u64_andNot (x m a : Nat) (hx : x < 2 ^ a) (ha : a ≤ 64) (hm : m * 2 ^ a < 18446744073709551616) : bits .andNot .u64 (x : Int) ((m * 2 ^ a : Nat) : Int) = x := by
  have hx64 : x < 2 ^ 64 := Nat.lt_of_lt_of_le hx (Nat.pow_le_pow_right (by omega) ha)
  have h1 : (BitVec.ofInt 64 (x : Int)).toNat = x := by
    rw [BitVec.ofInt_natCast, BitVec.toNat_ofNat]; exact Nat.mod_eq_of_lt (by omega)
  have h2 : (BitVec.ofInt 64 ((m * 2 ^ a : Nat) : Int)).toNat = m * 2 ^ a := by
    rw [BitVec.ofInt_natCast, BitVec.toNat_ofNat]; exact Nat.mod_eq_of_lt (by omega)
  have e : BitVec.ofInt 64 (x : Int) &&& ~~~(BitVec.ofInt 64 ((m * 2 ^ a : Nat) : Int)) = BitVec.ofInt 64 (x : Int) := by
    apply BitVec.eq_of_getLsbD_eq
    intro i hi
    rw [BitVec.getLsbD_and, BitVec.getLsbD_not]
    by_cases hia : i < a
    · have : (BitVec.ofInt 64 ((m * 2 ^ a : Nat) : Int)).getLsbD i = false := by
        rw [← BitVec.testBit_toNat, h2, Nat.testBit_mul_two_pow]
        simp; omega
      rw [this]; simp; omega
    · have : (BitVec.ofInt 64 (x : Int)).getLsbD i = false := by
        rw [← BitVec.testBit_toNat, h1]
        exact Nat.testBit_lt_two_pow (Nat.lt_of_lt_of_le hx (Nat.pow_le_pow_right (by omega) (by omega)))
      rw [this]; rfl
  show IntKind.u64.wrap ((BitVec.ofInt 64 (x : Int) &&& ~~~(BitVec.ofInt 64 ((m * 2 ^ a : Nat) : Int))).toNat : Int) = _
  rw [e, h1, IntKind.wrap_u64]
  omega

theorem put_law (x a b v : Nat) (hx : x < 2 ^ a) (hv : v < 18446744073709551616) (h : a + b ≤ 64) :
    bits .or .u64 (bits .andNot .u64 (x : Int) (IntKind.u64.wrap (((2 ^ b - 1 : Nat) : Int) * 2 ^ a))) (IntKind.u64.wrap (bits .and .u64 (v : Int) ((2 ^ b - 1 : Nat) : Int) * 2 ^ a)) = ((x + v % 2 ^ b * 2 ^ a : Nat) : Int) := by
  have hp : 0 < 2 ^ b := Nat.two_pow_pos b
  have hpa : 0 < 2 ^ a := Nat.two_pow_pos a
  have hab : 2 ^ b * 2 ^ a ≤ 18446744073709551616 := by rw [← Nat.pow_add, Nat.add_comm]; exact pow_le_64 h
  have hm : (2 ^ b - 1) * 2 ^ a < 18446744073709551616 := Nat.lt_of_lt_of_le (Nat.mul_lt_mul_of_pos_right (by omega) hpa) hab
  have hk : v % 2 ^ b * 2 ^ a < 18446744073709551616 := Nat.lt_of_lt_of_le (Nat.mul_lt_mul_of_pos_right (Nat.mod_lt _ hp) hpa) hab
  have c1 : ((2 ^ b - 1 : Nat) : Int) * 2 ^ a = (((2 ^ b - 1) * 2 ^ a : Nat) : Int) := by rw [Int.natCast_mul, Int.natCast_pow]; rfl
  have c2 : ((v % 2 ^ b : Nat) : Int) * 2 ^ a = ((v % 2 ^ b * 2 ^ a : Nat) : Int) := by rw [Int.natCast_mul, Int.natCast_pow]; rfl
  have w1 : IntKind.u64.wrap ((((2 ^ b - 1) * 2 ^ a : Nat)) : Int) = (((2 ^ b - 1) * 2 ^ a : Nat) : Int) := by rw [IntKind.wrap_u64]; omega
  have w2 : IntKind.u64.wrap (((v % 2 ^ b * 2 ^ a : Nat)) : Int) = ((v % 2 ^ b * 2 ^ a : Nat) : Int) := by rw [IntKind.wrap_u64]; omega
  have hx64 : x < 18446744073709551616 := Nat.lt_of_lt_of_le hx (pow_le_64 (by omega))
  rw [u64_mask v b hv (by omega), c1, c2, w1, w2, u64_andNot x _ a hx (by omega) hm, bits_or_u64_nat _ _ hx64 hk]
  have := Nat.shiftLeft_add_eq_or_of_lt hx (v % 2 ^ b)
  rw [Nat.shiftLeft_eq] at this
  rw [Nat.or_comm, ← this, Nat.add_comm]

theorem field_put (x a b v : Nat) (A B : Int) (w : World) (hA : A = a) (hB : B = b) (hx : x < 2 ^ a) (hv : v < 18446744073709551616) (h : a + b ≤ 64) :
    Calls Try.prog 54 #[.int .u64 x, .int .i64 A, .int .i64 B, .int .u64 v] w (fun e w' => e = .returned (.int .u64 ((x + v % 2 ^ b * 2 ^ a : Nat) : Int)) ∧ ∃ n, w' = w.drewN n) := by
  subst hA; subst hB
  have HP := Lib.hid (put_law x a b v hx hv h)
  have ha0 : (0 : Int) ≤ (a : Int) := by omega
  go_enter Try.func54, Try.ntmps54
  go_wp2_with fail
  refine (field_may _ _ _ h).mono ?_
  rintro e w' ⟨rfl, rfl⟩
  go_wp2_with fail
  refine (field_mask _ _ (by omega)).mono ?_
  rintro e w' ⟨rfl, rfl⟩
  go_wp2_with fail
  go_quiet (fail)
  go_wp2
  go_ret
  exact ⟨by rw [← HP.out]; rfl, _, rfl⟩

def wordOf (x y z : Nat) : Nat → Nat
  | 0 => 0
  | 1 => 0 + x % 2 ^ 14 * 2 ^ 0
  | 2 => 0 + x % 2 ^ 14 * 2 ^ 0 + y % 2 ^ 12 * 2 ^ 14
  | _ => 0 + x % 2 ^ 14 * 2 ^ 0 + y % 2 ^ 12 * 2 ^ 14 + z % 2 ^ 6 * 2 ^ 26

theorem bounds_word (x y z : Nat) (w : World) (hx : x < 18446744073709551616) (hy : y < 18446744073709551616) (hz : z < 18446744073709551616) :
    Calls Try.prog 46 #[.agg #[.int .u64 x, .int .u64 y, .int .u64 z]] w (fun e w' => e = .returned (.int .u64 (wordOf x y z 3)) ∧ Below w.heap.size w w') := by
  go_enter Try.func46, Try.ntmps46
  go_wp2_with (first | (go_at_call 48; (with_reducible refine (widths_any _).mono ?_); rintro e w1 ⟨rfl, hb1⟩; have HB1 := Lib.hid hb1; clear hb1) | fail)
  have z1 : w1.heap[w.heap.size + 1]? = some (.cells #[.int .u64 x, .int .u64 y, .int .u64 z] 105 (0, 0)) := (HB1.out.block _ (by simp)).trans (blk_alloc_new' _ _ _ (by simp))
  have HB : Hid (Below w.heap.size w w1) := Lib.hid ((((Below.refl _ _).alloc (Nat.le_refl _) _).alloc (by simp) _).trans (HB1.out.mono (by simp; omega)))
  have Z1 := Lib.hid z1
  clear z1 HB1
  go_loopw [3, 4, 16] (fun v3 v4 v16 wr => ∃ k : Nat, k ≤ 3 ∧ v16 = .int .i64 k ∧ v3 = .int .i64 (ofAt k) ∧ v4 = .int .u64 (wordOf x y z k) ∧ wr.heap[w.heap.size + 1]? = some (.cells #[.int .u64 x, .int .u64 y, .int .u64 z] 105 (0, 0)) ∧ Below w.heap.size w wr) (fun _ _ v16 _ => 3 - (RowKit.intOf v16).toNat)
  case atStart => exact ⟨0, by omega, rfl, rfl, rfl, Z1.out, HB.out⟩
  case round =>
    obtain ⟨k, hk, rfl, rfl, rfl, hA, hbel⟩ := hrel
    have HA := Lib.hid hA; have HBE := Lib.hid hbel
    clear hA hbel
    rcases (show k = 0 ∨ k = 1 ∨ k = 2 ∨ k = 3 by omega) with rfl | rfl | rfl | rfl
    · obtain ⟨ix, -, -⟩ := width_ix wr
      have c0 : wr.cell? ⟨w.heap.size + 1, 0, none⟩ = some (.int .u64 x) := (cell_of_blk HA.out _).trans rfl
      have hp : wordOf x y z 0 < 2 ^ 0 := by simp only [wordOf]; omega
      rw [show ofAt 0 = 0 from rfl, show ((0 : Nat) : Int) = 0 from rfl]
      go_wp2_with fail
      refine (field_put (wordOf x y z 0) 0 14 x _ _ _ rfl rfl hp hx (by omega)).mono ?_
      rintro e w2 ⟨rfl, n, rfl⟩
      go_wp2
      go_round
      case rel => exact ⟨1, by omega, rfl, rfl, by simp [wordOf], HA.out, Below_drewN HBE.out n⟩
      case measure => simp [RowKit.intOf]
    · obtain ⟨-, ix, -⟩ := width_ix wr
      have c0 : wr.cell? ⟨w.heap.size + 1, 1, none⟩ = some (.int .u64 y) := (cell_of_blk HA.out _).trans rfl
      have hp : wordOf x y z 1 < 2 ^ 14 := by simp only [wordOf]; omega
      rw [show ofAt 1 = 14 from rfl, show ((1 : Nat) : Int) = 1 from rfl]
      go_wp2_with fail
      refine (field_put (wordOf x y z 1) 14 12 y _ _ _ rfl rfl hp hy (by omega)).mono ?_
      rintro e w2 ⟨rfl, n, rfl⟩
      go_wp2
      go_round
      case rel => exact ⟨2, by omega, rfl, rfl, by simp [wordOf], HA.out, Below_drewN HBE.out n⟩
      case measure => simp [RowKit.intOf]
    · obtain ⟨-, -, ix⟩ := width_ix wr
      have c0 : wr.cell? ⟨w.heap.size + 1, 2, none⟩ = some (.int .u64 z) := (cell_of_blk HA.out _).trans rfl
      have hp : wordOf x y z 2 < 2 ^ 26 := by simp only [wordOf]; omega
      rw [show ofAt 2 = 26 from rfl, show ((2 : Nat) : Int) = 2 from rfl]
      go_wp2_with fail
      refine (field_put (wordOf x y z 2) 26 6 z _ _ _ rfl rfl hp hz (by omega)).mono ?_
      rintro e w2 ⟨rfl, n, rfl⟩
      go_wp2
      go_round
      case rel => exact ⟨3, by omega, rfl, rfl, by simp [wordOf], HA.out, Below_drewN HBE.out n⟩
      case measure => simp [RowKit.intOf]
    · go_wp2
      go_ret
      exact ⟨rfl, HBE.out⟩
end Go.Proofs.Ythlgkicidbagbaa
