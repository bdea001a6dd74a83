/- A capability's text: a contract. -/
import Derived.Test.YthlgkicidbagbaaDig
import Derived.Test.YthlgkicidbagbaaAlg
import Derived.Laws.Concat
namespace Go.Proofs.Ythlgkicidbagbaa
set_option maxRecDepth 100000
open Go Go.RowKit Go.ChangeMaps Go.Lib
set_option linter.unusedVariables false

theorem digits_16 (n : Nat) (hn : n < 18446744073709551616) (w : World) : Calls Try.prog 15 #[.int .u64 n, .int .u64 16] w (fun e w' => e = .returned (.string (digS 16 n)) ∧ Below w.heap.size w w') := digits_any 16 n (by omega) (by omega) hn w
theorem digits_10 (n : Nat) (hn : n < 18446744073709551616) (w : World) : Calls Try.prog 15 #[.int .u64 n, .int .u64 10] w (fun e w' => e = .returned (.string (digS 10 n)) ∧ Below w.heap.size w w') := digits_any 10 n (by omega) (by omega) hn w

theorem decode_lt (B T E a : Nat) (p : Nat × Nat) (h : decodeOf B T E a = some p) : p.1 ≤ 281474976710656 ∧ p.2 ≤ 281474976710656 := by
  have hq : 281474976710656 / 2 ^ (E - 1) * 2 ^ (E - 1) ≤ 281474976710656 := Nat.div_mul_le_self _ _
  unfold decodeOf at h
  by_cases h1 : 37 < E ∨ 281474976710656 ≤ a
  · rw [if_pos h1] at h; cases h
  rw [if_neg h1] at h
  generalize a / 2 ^ (E - 1) = at_ at h
  generalize (at_ + 16384 - B + 4096) % 16384 = d at h
  generalize (T + 16384 - B) % 4096 + (if 0 < E then 4096 else 0) = n at h
  by_cases h2 : at_ + 4096 < d
  · rw [if_pos h2] at h; cases h
  rw [if_neg h2] at h
  by_cases h3 : 281474976710656 / 2 ^ (E - 1) < at_ + 4096 - d + n
  · rw [if_pos h3] at h; cases h
  rw [if_neg h3] at h
  simp only [Option.some.injEq] at h
  rw [← h]
  exact ⟨Nat.le_trans (Nat.mul_le_mul_right _ (by omega)) hq, Nat.le_trans (Nat.mul_le_mul_right _ (by omega)) hq⟩
theorem ends_lt (m a : Nat) : loOf m a ≤ 281474976710656 ∧ hiOf m a ≤ 281474976710656 := by
  unfold loOf hiOf
  cases h : spanOf m a with
  | none => exact ⟨Nat.zero_le _, Nat.zero_le _⟩
  | some p => exact decode_lt _ _ _ _ p h

def tellS (t : Bool) (m a : Nat) : ByteArray :=
  if t then (⟨#[91]⟩ : ByteArray) ++ digS 16 (loOf m a) ++ ⟨#[45]⟩ ++ digS 16 (hiOf m a) ++ ⟨#[32]⟩ ++ permS (permsOf m) ++ ⟨#[32]⟩ ++ digS 10 (kindOf' m) ++ ⟨#[93]⟩ else digS 16 a

theorem tell_plain (m a : Nat) (w : World) (hm : m < 18446744073709551616) (ha : a < 18446744073709551616) :
    Calls Try.prog 17 #[.agg #[.bool false, .int .u64 m, .int .u64 a]] w (fun e w' => e = .returned (.string (tellS false m a)) ∧ Below w.heap.size w w') := by
  go_enter Try.func17, Try.ntmps17
  go_wp2_with fail
  refine (digits_any 16 a (by omega) (by omega) ha _).mono ?_
  rintro e w1 ⟨rfl, hb1⟩
  have HB1 := Lib.hid hb1
  clear hb1
  go_wp2
  go_ret
  exact ⟨rfl, ((Below.refl _ _).alloc (Nat.le_refl _) _).trans (HB1.out.mono (by simp))⟩
/-- An addition of strings that fit, in whatever world. -/
theorem add_fit {P : Program} (a b : ByteArray) (n k : Nat) (ha : a.size ≤ n) (hb : b.size ≤ k) (h : n + k ≤ 1000000) : ∃ c : ByteArray, c = a ++ b ∧ c.size ≤ n + k ∧ ∀ w, (Op.stringOp .add a b).run P w = .ok (.string c) w :=
  ⟨a ++ b, rfl, by rw [ByteArray.size_append]; omega, fun w => run_string_add_sum w a b (by omega)⟩
theorem keep5 {W W' : World} {F V m a : Nat} (hb : Below W.heap.size W W') (h : W.cell? ⟨F, 0, none⟩ = some (.bool true) ∧ W.cell? ⟨F, 1, none⟩ = some (.int .u64 m) ∧ W.cell? ⟨F, 2, none⟩ = some (.int .u64 a) ∧ W.cell? ⟨V, 2, none⟩ = some (.int .u64 (permsOf m)) ∧ W.cell? ⟨V, 3, none⟩ = some (.int .u64 (kindOf' m))) : W'.cell? ⟨F, 0, none⟩ = some (.bool true) ∧ W'.cell? ⟨F, 1, none⟩ = some (.int .u64 m) ∧ W'.cell? ⟨F, 2, none⟩ = some (.int .u64 a) ∧ W'.cell? ⟨V, 2, none⟩ = some (.int .u64 (permsOf m)) ∧ W'.cell? ⟨V, 3, none⟩ = some (.int .u64 (kindOf' m)) := by
  obtain ⟨c, _⟩ := bcell hb
  exact ⟨(c _ _ (blk_cell_lt h.1)).trans h.1, (c _ _ (blk_cell_lt h.1)).trans h.2.1, (c _ _ (blk_cell_lt h.1)).trans h.2.2.1, (c _ _ (blk_cell_lt h.2.2.2.1)).trans h.2.2.2.1, (c _ _ (blk_cell_lt h.2.2.2.1)).trans h.2.2.2.2⟩
theorem dig_size (b n : Nat) : (digS b n).size ≤ 65 := by unfold digS; rw [strOfNums_size]; have := digL_length b 64 n []; simp at this; omega
theorem permL_length (p : Nat) : ∀ k i acc, (permL p k i acc).length ≤ acc.length + k + 1
  | 0, i, acc => by simp only [permL]; split <;> simp
  | k + 1, i, acc => by
    simp only [permL]
    split
    · have := permL_length p k (i + 1) acc; omega
    · have := permL_length p k (i + 1) (acc ++ [letterOf i]); simp at this; omega
theorem perm_size (p : Nat) : (permS p).size ≤ 10 := by unfold permS; rw [strOfNums_size]; have := permL_length p 9 0 []; simp at this; omega

set_option maxHeartbeats 4000000 in
theorem tell_tag (m a : Nat) (w : World) (hm : m < 18446744073709551616) (ha : a < 18446744073709551616) :
    Calls Try.prog 17 #[.agg #[.bool true, .int .u64 m, .int .u64 a]] w (fun e w' => e = .returned (.string (tellS true m a)) ∧ Below w.heap.size w w') := by
  go_enter Try.func17, Try.ntmps17
  go_wp2_with fail
  refine (capab_look true m a _ hm ha).mono ?_
  rintro e w1 ⟨rfl, hb1⟩
  have HB1 := Lib.hid hb1
  clear hb1
  go_wp2_with fail
  have lt1 : w.heap.size + 1 ≤ w1.heap.size := by have q := HB1.out.size; simpa using q
  obtain ⟨hlo, hhi⟩ := ends_lt m a
  have hl1 : loOf m a < 18446744073709551616 := by omega
  have hl2 : hiOf m a < 18446744073709551616 := by omega
  have hl3 : permsOf m < 18446744073709551616 := by unfold permsOf; omega
  have hl4 : kindOf' m < 18446744073709551616 := by unfold kindOf'; omega
  have z1 := dig_size 16 (loOf m a)
  have z2 := dig_size 16 (hiOf m a)
  have z3 := dig_size 10 (kindOf' m)
  have z4 := perm_size (permsOf m)
  obtain ⟨t1, e1, k1, p1⟩ := add_fit (P := Try.prog) ⟨#[91]⟩ (digS 16 (loOf m a)) 1 65 (Nat.le_refl _) z1 (by omega)
  obtain ⟨t2, e2, k2, p2⟩ := add_fit (P := Try.prog) t1 ⟨#[45]⟩ 66 1 k1 (Nat.le_refl _) (by omega)
  obtain ⟨t3, e3, k3, p3⟩ := add_fit (P := Try.prog) t2 (digS 16 (hiOf m a)) 67 65 k2 z2 (by omega)
  obtain ⟨t4, e4, k4, p4⟩ := add_fit (P := Try.prog) t3 ⟨#[32]⟩ 132 1 k3 (Nat.le_refl _) (by omega)
  obtain ⟨t5, e5, k5, p5⟩ := add_fit (P := Try.prog) t4 (permS (permsOf m)) 133 10 k4 z4 (by omega)
  obtain ⟨t6, e6, k6, p6⟩ := add_fit (P := Try.prog) t5 ⟨#[32]⟩ 143 1 k5 (Nat.le_refl _) (by omega)
  obtain ⟨t7, e7, k7, p7⟩ := add_fit (P := Try.prog) t6 (digS 10 (kindOf' m)) 144 65 k6 z3 (by omega)
  obtain ⟨t8, e8, k8, p8⟩ := add_fit (P := Try.prog) t7 ⟨#[93]⟩ 209 1 k7 (Nat.le_refl _) (by omega)
  have ET : Hid (tellS true m a = t8) := Lib.hid (by rw [e8, e7, e6, e5, e4, e3, e2, e1]; rfl)
  clear e1 e2 e3 e4 e5 e6 e7 e8 k1 k2 k3 k4 k5 k6 k7 k8 z1 z2 z3 z4
  have kF : w1.heap[w.heap.size]? = some (.cells #[.bool true, .int .u64 m, .int .u64 a] 24 (0, 0)) := (HB1.out.block _ (by simp)).trans (blk_alloc_new w _)
  have kF0 : w1.cell? ⟨w.heap.size, 0, none⟩ = some (.bool true) := cell_of_blk kF 0
  have kF1 : w1.cell? ⟨w.heap.size, 1, none⟩ = some (.int .u64 m) := cell_of_blk kF 1
  have kF2 : w1.cell? ⟨w.heap.size, 2, none⟩ = some (.int .u64 a) := cell_of_blk kF 2
  clear kF
  first | go_region_held3 (fun w' => w'.cell? ⟨w.heap.size, 0, none⟩ = some (.bool true) ∧ w'.cell? ⟨w.heap.size, 1, none⟩ = some (.int .u64 m) ∧ w'.cell? ⟨w.heap.size, 2, none⟩ = some (.int .u64 a) ∧ w'.cell? ⟨w1.heap.size, 2, none⟩ = some (.int .u64 (permsOf m)) ∧ w'.cell? ⟨w1.heap.size, 3, none⟩ = some (.int .u64 (kindOf' m))) (first | (with_reducible exact keep5 ‹Below _ _ _› (by assumption)) | go_keep) (first | ((go_at_call 28; (with_reducible refine (alg_base true m a _ hm ha).mono ?_); rintro e wa ⟨rfl, hba⟩; have HA := Lib.hid hba)) | ((go_at_call 29; (with_reducible refine (alg_top true m a _ hm ha).mono ?_); rintro e wb ⟨rfl, hbb⟩; have HBB := Lib.hid hbb)) | ((go_at_call 15; (with_reducible refine (digits_16 (loOf m a) hl1 _).mono ?_); rintro e wc ⟨rfl, hbc⟩; have HC := Lib.hid hbc)) | ((go_at_call 15; (with_reducible refine (digits_16 (hiOf m a) hl2 _).mono ?_); rintro e wd ⟨rfl, hbd⟩; have HD := Lib.hid hbd)) | ((go_at_call 15; (with_reducible refine (digits_10 (kindOf' m) hl4 _).mono ?_); rintro e we ⟨rfl, hbe⟩; have HE := Lib.hid hbe)) | ((go_at_call 30; (with_reducible refine (perm_any (permsOf m) hl3 _).mono ?_); rintro e wf ⟨rfl, hbf⟩; have HF := Lib.hid hbf))) | fail
  go_wp2
  go_ret
  have b1 : Below w.heap.size w w1 := ((Below.refl _ _).alloc (Nat.le_refl _) _).trans (HB1.out.mono (by simp))
  have t0 : Touch (fun _ => False) w1 wa := (((Touch.refl (fun _ => False) w1).alloc _).drew).trans (Touch.of_below HA.out _) (fun _ _ h => h)
  have t1 := t0.trans (Touch.of_below HC.out (fun _ => False)) (fun _ _ h => h)
  have t2 := t1.trans (Touch.of_below HBB.out (fun _ => False)) (fun _ _ h => h)
  have t3 := t2.trans (Touch.of_below HD.out (fun _ => False)) (fun _ _ h => h)
  have t4 := t3.trans (Touch.of_below HF.out (fun _ => False)) (fun _ _ h => h)
  have t5 := t4.trans (Touch.of_below HE.out (fun _ => False)) (fun _ _ h => h)
  exact ⟨by rw [ET.out]; rfl, b1.trans ((t5.below (fun _ _ h => h)).mono b1.size)⟩
end Go.Proofs.Ythlgkicidbagbaa
