/- The span of fields: contracts. -/
import Derived.Test.YthlgkicidbagbaaBnd
import Derived.Deep.RegionHeld3
import Derived.Deep.RegionWith
namespace Go.Proofs.Ythlgkicidbagbaa
set_option maxRecDepth 100000
open Go Go.RowKit Go.ChangeMaps Go.Lib
set_option linter.unusedVariables false

theorem bounds_shift (e : Nat) (w : World) (he : e < 64) : Calls Try.prog 47 #[.int .u64 e] w (fun r w' => r = .returned (.int .i64 ((e - 1 : Nat) : Int)) ∧ w' = w) := by
  rcases Nat.eq_zero_or_pos e with rfl | hp
  · go_enter Try.func47, Try.ntmps47
    go_wp2
    go_ret
    exact ⟨rfl, rfl⟩
  · go_enter Try.func47, Try.ntmps47
    go_wp2
    go_ret
    refine ⟨?_, rfl⟩
    show Ending.returned (.int .i64 ((e : Int) - 1)) = _
    rw [show (e : Int) - 1 = ((e - 1 : Nat) : Int) by omega]

theorem wordOf_eq (x y z : Nat) (hx : x < 16384) (hy : y < 4096) (hz : z < 64) : wordOf x y z 3 = x + y * 16384 + z * 67108864 := by
  simp only [wordOf]; omega
theorem of_word (x y z : Nat) (w : World) (hx : x < 16384) (hy : y < 4096) (hz : z < 64) :
    Calls Try.prog 38 #[.int .u64 (wordOf x y z 3)] w (fun e w' => e = .returned (.agg #[.int .u64 x, .int .u64 y, .int .u64 z]) ∧ Below w.heap.size w w') := by
  have hw := wordOf_eq x y z hx hy hz
  refine (bounds_of (wordOf x y z 3) w (by omega)).mono ?_
  rintro e w' ⟨rfl, hb⟩
  refine ⟨?_, hb⟩
  have e1 : wordOf x y z 3 % 16384 = x := by omega
  have e2 : wordOf x y z 3 / 16384 % 4096 = y := by omega
  have e3 : wordOf x y z 3 / 67108864 % 64 = z := by omega
  simp only [ofCells, e1, e2, e3]

/-- The span of fields beside an address. -/
def decodeOf (B T E a : Nat) : Option (Nat × Nat) :=
  if 37 < E ∨ 281474976710656 ≤ a then none
  else if a / 2 ^ (E - 1) + 4096 < (a / 2 ^ (E - 1) + 16384 - B + 4096) % 16384 then none
  else if 281474976710656 / 2 ^ (E - 1) < a / 2 ^ (E - 1) + 4096 - (a / 2 ^ (E - 1) + 16384 - B + 4096) % 16384 + ((T + 16384 - B) % 4096 + (if 0 < E then 4096 else 0)) then none
  else some ((a / 2 ^ (E - 1) + 4096 - (a / 2 ^ (E - 1) + 16384 - B + 4096) % 16384) * 2 ^ (E - 1),
    (a / 2 ^ (E - 1) + 4096 - (a / 2 ^ (E - 1) + 16384 - B + 4096) % 16384 + ((T + 16384 - B) % 4096 + (if 0 < E then 4096 else 0))) * 2 ^ (E - 1))
def spanVal (o : Option (Nat × Nat)) : Value := match o with | none => .agg #[.int .u64 0, .int .u64 0] | some p => .agg #[.int .u64 p.1, .int .u64 p.2]
def decodeVal (o : Option (Nat × Nat)) : Value := .tuple #[spanVal o, .bool o.isSome]

theorem blk_cell_lt {w : World} {F : Nat} {o : Nat} {v : Value} (h : w.cell? ⟨F, o, none⟩ = some v) : F < w.heap.size := World.block_lt_of_cell? w _ h
theorem keep3 {w w1 : World} {F : Nat} {x y z : Value} (hb : Below w.heap.size w w1) (hF : F < w.heap.size) (h : w.cell? ⟨F, 0, none⟩ = some x ∧ w.cell? ⟨F, 1, none⟩ = some y ∧ w.cell? ⟨F, 2, none⟩ = some z) :
    w1.cell? ⟨F, 0, none⟩ = some x ∧ w1.cell? ⟨F, 1, none⟩ = some y ∧ w1.cell? ⟨F, 2, none⟩ = some z := by
  obtain ⟨c, _⟩ := bcell hb
  exact ⟨(c _ _ hF).trans h.1, (c _ _ hF).trans h.2.1, (c _ _ hF).trans h.2.2⟩

theorem dec_post {w w1 w2 : World} {c1 c2 : Array Value} {t1 t2 : TypeId} (hb1 : Below ((w.alloc (.cells c1 t1)).alloc (.cells c2 t2)).drew.heap.size ((w.alloc (.cells c1 t1)).alloc (.cells c2 t2)).drew w1) (hb2 : Below w1.heap.size w1 w2) :
    Below w.heap.size w w2 ∧ w2.heap[w.heap.size]? = some (.cells c1 t1 (0, 0)) ∧ w2.heap[w.heap.size + 1]? = some (.cells c2 t2 (0, 0)) := by
  have k1 : ((w.alloc (.cells c1 t1)).alloc (.cells c2 t2)).drew.heap[w.heap.size]? = some (.cells c1 t1 (0, 0)) := blk_alloc_old (blk_alloc_new w _) _
  have k2 : ((w.alloc (.cells c1 t1)).alloc (.cells c2 t2)).drew.heap[w.heap.size + 1]? = some (.cells c2 t2 (0, 0)) := blk_alloc_new' _ _ _ (by simp)
  have t : Touch (fun _ => False) ((w.alloc (.cells c1 t1)).alloc (.cells c2 t2)).drew w2 := (Touch.of_below hb1 _).trans (Touch.of_below hb2 (fun _ => False)) (fun _ _ h => h)
  refine ⟨?_, t.keep k1 (fun h => h), t.keep k2 (fun h => h)⟩
  exact (((((Touch.refl (fun _ => False) w).alloc _).alloc _).drew).trans t (fun _ _ h => h)).below (fun _ _ h => h)

set_option maxHeartbeats 8000000 in
theorem decode_bad (B T E a : Nat) (w : World) (hB : B < 16384) (hT : T < 4096) (hE : E < 64) (ha : a < 18446744073709551616) (hbad : 37 < E ∨ 281474976710656 ≤ a) :
    Calls Try.prog 37 #[.agg #[.int .u64 B, .int .u64 T, .int .u64 E], .int .u64 a] w (fun e w' => e = .returned (decodeVal none) ∧ Below w.heap.size w w') := by
  by_cases h37 : 37 < E
  · have g1 : decide ((37 : Int) < (E : Int)) = true := by simp; omega
    clear hbad
    go_enter Try.func37, Try.ntmps37
    go_wp2_with fail
    have S0 : ((w.alloc (.cells #[.int .u64 B, .int .u64 T, .int .u64 E] 93)).alloc (.cells #[.int .u64 0, .int .u64 0] 75)).drew.cell? ⟨w.heap.size, 0, none⟩ = some (.int .u64 B) ∧ ((w.alloc (.cells #[.int .u64 B, .int .u64 T, .int .u64 E] 93)).alloc (.cells #[.int .u64 0, .int .u64 0] 75)).drew.cell? ⟨w.heap.size, 1, none⟩ = some (.int .u64 T) ∧ ((w.alloc (.cells #[.int .u64 B, .int .u64 T, .int .u64 E] 93)).alloc (.cells #[.int .u64 0, .int .u64 0] 75)).drew.cell? ⟨w.heap.size, 2, none⟩ = some (.int .u64 E) := by
      have hb := blk_alloc_old (blk_alloc_new w (.cells #[.int .u64 B, .int .u64 T, .int .u64 E] 93)) (.cells #[.int .u64 0, .int .u64 0] 75)
      exact ⟨cell_of_blk hb _, cell_of_blk hb _, cell_of_blk hb _⟩
    have HS0 := Lib.hid S0
    clear S0
    first | go_region_with (first | ((go_at_call 46; (with_reducible refine (bounds_word _ _ _ _ (by omega) (by omega) (by omega)).mono ?_); rintro e w1 ⟨rfl, hb1⟩; have HS1 := Lib.hid (keep3 hb1 (by first | (simp; done) | (simp; omega)) HS0.out); have HB1 := Lib.hid hb1; obtain ⟨k1, k2, k3⟩ := HS1.out; clear hb1)) | ((go_at_call 38; (with_reducible refine (of_word _ _ _ _ hB hT hE).mono ?_); rintro e w2 ⟨rfl, hb2⟩; have HS2 := Lib.hid (keep3 hb2 (blk_cell_lt HS1.out.1) HS1.out); have HB2 := Lib.hid hb2; obtain ⟨k4, k5, k6⟩ := HS2.out; clear hb2))) | fail
    all_goals have hb1 := HB1.out
    all_goals have hb2 := HB2.out
    all_goals clear k1 k2 k3 k4 k5 k6
    all_goals (
      obtain ⟨hbel, hF, hR⟩ := dec_post hb1 hb2
      clear hb1 hb2
      have c0 : w2.cell? ⟨w.heap.size, 0, none⟩ = some (.int .u64 B) := cell_of_blk hF 0
      have c1 : w2.cell? ⟨w.heap.size, 1, none⟩ = some (.int .u64 T) := cell_of_blk hF 1
      have c2 : w2.cell? ⟨w.heap.size, 2, none⟩ = some (.int .u64 E) := cell_of_blk hF 2
      have d0 : w2.cell? ⟨w.heap.size + 1, 0, none⟩ = some (.int .u64 0) := cell_of_blk hR 0
      have d1 : w2.cell? ⟨w.heap.size + 1, 1, none⟩ = some (.int .u64 0) := cell_of_blk hR 1
      have e0 : w2.frozen? ⟨w.heap.size + 1, 0, none⟩ = false := free_of_blk hR 0
      have e1 : w2.frozen? ⟨w.heap.size + 1, 1, none⟩ = false := free_of_blk hR 1
      have HB := Lib.hid hbel; have HR := Lib.hid hR
      clear hbel hF hR
      go_wp2
      exact bodyPost_ret (v := decodeVal none) (by simp [results, Try.results37, go_sem, d0, d1]; rfl) rfl ⟨rfl, (HB.out.setCell (by simp) _).setCell (by simp) _⟩)
  · have g1 : decide ((37 : Int) < (E : Int)) = false := by simp; omega
    have g2 : decide ((281474976710656 : Int) ≤ (a : Int)) = true := by simp; omega
    clear hbad
    go_enter Try.func37, Try.ntmps37
    go_wp2_with fail
    first | go_region_held3 (fun w' => w'.cell? ⟨w.heap.size, 0, none⟩ = some (.int .u64 B) ∧ w'.cell? ⟨w.heap.size, 1, none⟩ = some (.int .u64 T) ∧ w'.cell? ⟨w.heap.size, 2, none⟩ = some (.int .u64 E)) (first | go_keep | exact keep3 ‹_› (by first | assumption | (simp; done) | (simp; omega)) (by assumption) | exact keep3 ‹_› (blk_cell_lt (by assumption)) (by assumption) | exact keep3 ‹_› (blk_cell_lt (And.left (by assumption))) (by assumption)) (first | ((go_at_call 46; (with_reducible refine (bounds_word _ _ _ _ (by omega) (by omega) (by omega)).mono ?_); rintro e w1 ⟨rfl, hb1⟩)) | ((go_at_call 38; (with_reducible refine (of_word _ _ _ _ hB hT hE).mono ?_); rintro e w2 ⟨rfl, hb2⟩))) | fail
    obtain ⟨hbel, hF, hR⟩ := dec_post hb1 hb2
    clear hb1 hb2
    have c0 : w2.cell? ⟨w.heap.size, 0, none⟩ = some (.int .u64 B) := cell_of_blk hF 0
    have c1 : w2.cell? ⟨w.heap.size, 1, none⟩ = some (.int .u64 T) := cell_of_blk hF 1
    have c2 : w2.cell? ⟨w.heap.size, 2, none⟩ = some (.int .u64 E) := cell_of_blk hF 2
    have d0 : w2.cell? ⟨w.heap.size + 1, 0, none⟩ = some (.int .u64 0) := cell_of_blk hR 0
    have d1 : w2.cell? ⟨w.heap.size + 1, 1, none⟩ = some (.int .u64 0) := cell_of_blk hR 1
    have e0 : w2.frozen? ⟨w.heap.size + 1, 0, none⟩ = false := free_of_blk hR 0
    have e1 : w2.frozen? ⟨w.heap.size + 1, 1, none⟩ = false := free_of_blk hR 1
    have HB := Lib.hid hbel; have HR := Lib.hid hR
    clear hbel hF hR
    go_wp2
    exact bodyPost_ret (v := decodeVal none) (by simp [results, Try.results37, go_sem, d0, d1]; rfl) rfl ⟨rfl, (HB.out.setCell (by simp) _).setCell (by simp) _⟩

theorem and_sub (T B k n : Nat) (hT : T < 281474976710656) (hB : B < 16384) (hn : k = 12 ∧ n = (T + 16384 - B) % 4096) : bits .and .u64 (IntKind.u64.wrap ((T : Int) - (B : Int))) 4095 = (n : Int) := by
  obtain ⟨rfl, rfl⟩ := hn
  obtain ⟨m, hm⟩ : ∃ m : Nat, IntKind.u64.wrap ((T : Int) - (B : Int)) = (m : Int) := ⟨(IntKind.u64.wrap ((T : Int) - (B : Int))).toNat, by rw [IntKind.wrap_u64]; omega⟩
  rw [hm, show (4095 : Int) = ((2 ^ 12 - 1 : Nat) : Int) from rfl, u64_mask _ _ (by rw [IntKind.wrap_u64] at hm; omega) (by omega)]
  rw [IntKind.wrap_u64] at hm
  omega
theorem or_4096 (n : Nat) (hn : n < 4096) : bits .or .u64 (n : Int) 4096 = ((n + 4096 : Nat) : Int) := by
  rw [show (4096 : Int) = ((1 * 2 ^ 12 : Nat) : Int) from rfl, bits_or_u64_nat _ _ (by omega) (by omega)]
  have := Nat.shiftLeft_add_eq_or_of_lt (b := n) (i := 12) hn 1
  rw [Nat.shiftLeft_eq] at this
  rw [Nat.or_comm, ← this, Nat.add_comm]
theorem and_sub2 (t B d : Nat) (ht : t < 281474976710656) (hB : B < 16384) (hd : d = (t + 16384 - B + 4096) % 16384) : bits .and .u64 (IntKind.u64.wrap (IntKind.u64.wrap ((t : Int) - (B : Int)) + 4096)) 16383 = (d : Int) := by
  subst hd
  obtain ⟨m, hm⟩ : ∃ m : Nat, IntKind.u64.wrap (IntKind.u64.wrap ((t : Int) - (B : Int)) + 4096) = (m : Int) := ⟨(IntKind.u64.wrap (IntKind.u64.wrap ((t : Int) - (B : Int)) + 4096)).toNat, by rw [IntKind.wrap_u64]; omega⟩
  rw [hm, show (16383 : Int) = ((2 ^ 14 - 1 : Nat) : Int) from rfl, u64_mask _ _ (by rw [IntKind.wrap_u64] at hm; omega) (by omega)]
  rw [IntKind.wrap_u64, IntKind.wrap_u64] at hm
  omega

theorem decode_good (B T E a : Nat) (w : World) (hB : B < 16384) (hT : T < 4096) (hE : E ≤ 37) (ha : a < 281474976710656) :
    Calls Try.prog 37 #[.agg #[.int .u64 B, .int .u64 T, .int .u64 E], .int .u64 a] w (fun e w' => e = .returned (decodeVal (decodeOf B T E a)) ∧ Below w.heap.size w w') := by
  have g1 : decide ((37 : Int) < (E : Int)) = false := by simp; omega
  have g2 : decide ((281474976710656 : Int) ≤ (a : Int)) = false := by simp; omega
  go_enter Try.func37, Try.ntmps37
  go_wp2_with fail
  first | go_region_held3 (fun w' => w'.cell? ⟨w.heap.size, 0, none⟩ = some (.int .u64 B) ∧ w'.cell? ⟨w.heap.size, 1, none⟩ = some (.int .u64 T) ∧ w'.cell? ⟨w.heap.size, 2, none⟩ = some (.int .u64 E)) (first | go_keep | exact keep3 ‹_› (by first | assumption | (simp; done) | (simp; omega)) (by assumption) | exact keep3 ‹_› (blk_cell_lt (by assumption)) (by assumption) | exact keep3 ‹_› (blk_cell_lt (And.left (by assumption))) (by assumption)) (first | ((go_at_call 46; (with_reducible refine (bounds_word _ _ _ _ (by omega) (by omega) (by omega)).mono ?_); rintro e w1 ⟨rfl, hb1⟩)) | ((go_at_call 38; (with_reducible refine (of_word _ _ _ _ hB hT (by omega)).mono ?_); rintro e w2 ⟨rfl, hb2⟩))) | fail
  obtain ⟨hbel, hF, hR⟩ := dec_post hb1 hb2
  clear hb1 hb2
  have c0 : w2.cell? ⟨w.heap.size, 0, none⟩ = some (.int .u64 B) := cell_of_blk hF 0
  have c1 : w2.cell? ⟨w.heap.size, 1, none⟩ = some (.int .u64 T) := cell_of_blk hF 1
  have c2 : w2.cell? ⟨w.heap.size, 2, none⟩ = some (.int .u64 E) := cell_of_blk hF 2
  have d0 : w2.cell? ⟨w.heap.size + 1, 0, none⟩ = some (.int .u64 0) := cell_of_blk hR 0
  have d1 : w2.cell? ⟨w.heap.size + 1, 1, none⟩ = some (.int .u64 0) := cell_of_blk hR 1
  have e0 : w2.frozen? ⟨w.heap.size + 1, 0, none⟩ = false := free_of_blk hR 0
  have e1 : w2.frozen? ⟨w.heap.size + 1, 1, none⟩ = false := free_of_blk hR 1
  have HB := Lib.hid hbel; have HR := Lib.hid hR
  clear hbel hF hR
  go_wp2_with fail
  refine (bounds_shift E _ (by omega)).mono ?_
  rintro e w3 ⟨rfl, rfl⟩
  obtain ⟨x, hx⟩ : ∃ x, x = E - 1 := ⟨_, rfl⟩
  rw [← hx]
  have hx36 : x ≤ 36 := by omega
  obtain ⟨n0, hn0⟩ : ∃ n0 : Nat, n0 = (T + 16384 - B) % 4096 := ⟨_, rfl⟩
  obtain ⟨at_, hat⟩ : ∃ at_ : Nat, at_ = a / 2 ^ x := ⟨_, rfl⟩
  have hat48 : at_ < 281474976710656 := by rw [hat]; exact Nat.lt_of_le_of_lt (Nat.div_le_self _ _) ha
  obtain ⟨d, hd⟩ : ∃ d : Nat, d = (at_ + 16384 - B + 4096) % 16384 := ⟨_, rfl⟩
  have f1 : bits .and .u64 (IntKind.u64.wrap ((T : Int) - (B : Int))) 4095 = (n0 : Int) := and_sub T B 12 n0 (by omega) (by omega) ⟨rfl, hn0⟩
  have f2 : bits .or .u64 (n0 : Int) 4096 = ((n0 + 4096 : Nat) : Int) := or_4096 n0 (by omega)
  have f3 : (a : Int) / 2 ^ x = (at_ : Int) := by rw [hat]; simp
  have f4 : bits .and .u64 (IntKind.u64.wrap (IntKind.u64.wrap ((at_ : Int) - (B : Int)) + 4096)) 16383 = (d : Int) := and_sub2 at_ B d (by omega) (by omega) hd
  have HX := Lib.hid hx; have HN0 := Lib.hid hn0; have HAT := Lib.hid hat; have HD := Lib.hid hd
  have hn4 : n0 < 4096 := by omega
  have hd4 : d < 16384 := by omega
  clear hx hn0 hat hd
  by_cases hE0 : 0 < E
  · have g3 : decide ((0 : Int) < (E : Int)) = true := by simp; omega
    by_cases q1 : at_ + 4096 < d
    · have hv : decodeOf B T E a = none := by
        unfold decodeOf; rw [if_neg (by omega), ← HX.out, ← HAT.out, ← HD.out, if_pos q1]
      have q1' : decide ((at_ : Int) + 4096 < (d : Int)) = true := by simp; omega
      have HV := Lib.hid hv
      clear hv
      go_wp2
      have hv := HV.out
      exact bodyPost_ret (v := decodeVal none) (by simp [results, Try.results37, go_sem, d0, d1]; rfl) rfl ⟨by rw [hv], (HB.out.setCell (by simp) _).setCell (by simp) _⟩
    · obtain ⟨bs, hbs⟩ : ∃ bs : Nat, bs = at_ + 4096 - d := ⟨_, rfl⟩
      obtain ⟨q, hq⟩ : ∃ q : Nat, q = 281474976710656 / 2 ^ x := ⟨_, rfl⟩
      have q1' : decide ((at_ : Int) + 4096 < (d : Int)) = false := by simp; omega
      have f5 : (at_ : Int) + 4096 - (d : Int) = (bs : Int) := by omega
      have f6 : (281474976710656 : Int) / 2 ^ x = (q : Int) := by rw [hq]; simp
      have hbs50 : bs < 562949953421312 := by omega
      have HBS := Lib.hid hbs; have HQ := Lib.hid hq
      clear hbs hq
      by_cases q2 : q < bs + (n0 + 4096)
      · have hv : decodeOf B T E a = none := by
          unfold decodeOf; rw [if_neg (by omega), ← HX.out, ← HAT.out, ← HD.out, if_neg q1, ← HBS.out, ← HN0.out, if_pos hE0, ← HQ.out, if_pos (by omega)]
        have q2' : decide ((q : Int) < (bs : Int) + ((n0 : Int) + 4096)) = true := by simp; omega
        have HV := Lib.hid hv
        clear hv
        go_wp2
        have hv := HV.out
        exact bodyPost_ret (v := decodeVal none) (by simp [results, Try.results37, go_sem, d0, d1]; rfl) rfl ⟨by rw [hv], (HB.out.setCell (by simp) _).setCell (by simp) _⟩
      · have hpx : 2 ^ x ≤ 68719476736 := Nat.pow_le_pow_right (n := 2) (j := 36) (by omega) hx36
        have hqx : q * 2 ^ x ≤ 281474976710656 := by rw [HQ.out]; exact Nat.div_mul_le_self _ _
        have hb2 : (bs + (n0 + 4096)) * 2 ^ x ≤ 281474976710656 := Nat.le_trans (Nat.mul_le_mul_right _ (by omega)) hqx
        have hb1 : bs * 2 ^ x ≤ 281474976710656 := Nat.le_trans (Nat.mul_le_mul_right _ (by omega)) hb2
        have hv : decodeOf B T E a = some (bs * 2 ^ x, (bs + (n0 + 4096)) * 2 ^ x) := by
          unfold decodeOf; rw [if_neg (by omega), ← HX.out, ← HAT.out, ← HD.out, if_neg q1, ← HBS.out, ← HN0.out, if_pos hE0, ← HQ.out, if_neg (by omega)]
        obtain ⟨p1, hp1⟩ : ∃ p1 : Nat, p1 = bs * 2 ^ x := ⟨_, rfl⟩
        obtain ⟨p2, hp2⟩ : ∃ p2 : Nat, p2 = (bs + (n0 + 4096)) * 2 ^ x := ⟨_, rfl⟩
        have f7 : IntKind.u64.wrap ((bs : Int) * 2 ^ x) = (p1 : Int) := by
          rw [show (bs : Int) * 2 ^ x = (p1 : Int) by rw [hp1]; simp, IntKind.wrap_u64]; omega
        have f8 : IntKind.u64.wrap (((bs : Int) + ((n0 : Int) + 4096)) * 2 ^ x) = (p2 : Int) := by
          rw [show ((bs : Int) + ((n0 : Int) + 4096)) * 2 ^ x = (p2 : Int) by rw [hp2]; simp, IntKind.wrap_u64]; omega
        rw [← hp1, ← hp2] at hv
        have q2' : decide ((q : Int) < (bs : Int) + ((n0 : Int) + 4096)) = false := by simp; omega
        have HV := Lib.hid hv
        clear hv hp1 hp2 hpx hqx hb1 hb2
        go_wp2
        have d0' : w3.drew.cell? ⟨w.heap.size + 1, 0, none⟩ = some (.int .u64 0) := d0
        have d1' : w3.drew.cell? ⟨w.heap.size + 1, 1, none⟩ = some (.int .u64 0) := d1
        have e0' : w3.drew.frozen? ⟨w.heap.size + 1, 0, none⟩ = false := e0
        have e1' : w3.drew.frozen? ⟨w.heap.size + 1, 1, none⟩ = false := e1
        go_region
        go_wp2
        have hv := HV.out
        exact bodyPost_ret (v := decodeVal (some (p1, p2))) (by simp [results, Try.results37, go_sem, d0, d1]; rfl) rfl ⟨by rw [hv], ((HB.out.setCell (by simp) _).setCell (by simp) _).drew⟩
  · have g3 : decide ((0 : Int) < (E : Int)) = false := by simp; omega
    by_cases q1 : at_ + 4096 < d
    · have hv : decodeOf B T E a = none := by
        unfold decodeOf; rw [if_neg (by omega), ← HX.out, ← HAT.out, ← HD.out, if_pos q1]
      have q1' : decide ((at_ : Int) + 4096 < (d : Int)) = true := by simp; omega
      have HV := Lib.hid hv
      clear hv
      go_wp2
      have hv := HV.out
      exact bodyPost_ret (v := decodeVal none) (by simp [results, Try.results37, go_sem, d0, d1]; rfl) rfl ⟨by rw [hv], (HB.out.setCell (by simp) _).setCell (by simp) _⟩
    · obtain ⟨bs, hbs⟩ : ∃ bs : Nat, bs = at_ + 4096 - d := ⟨_, rfl⟩
      obtain ⟨q, hq⟩ : ∃ q : Nat, q = 281474976710656 / 2 ^ x := ⟨_, rfl⟩
      have q1' : decide ((at_ : Int) + 4096 < (d : Int)) = false := by simp; omega
      have f5 : (at_ : Int) + 4096 - (d : Int) = (bs : Int) := by omega
      have f6 : (281474976710656 : Int) / 2 ^ x = (q : Int) := by rw [hq]; simp
      have hbs50 : bs < 562949953421312 := by omega
      have HBS := Lib.hid hbs; have HQ := Lib.hid hq
      clear hbs hq
      by_cases q2 : q < bs + (n0 + 0)
      · have hv : decodeOf B T E a = none := by
          unfold decodeOf; rw [if_neg (by omega), ← HX.out, ← HAT.out, ← HD.out, if_neg q1, ← HBS.out, ← HN0.out, if_neg hE0, ← HQ.out, if_pos (by omega)]
        have q2' : decide ((q : Int) < (bs : Int) + (n0 : Int)) = true := by simp; omega
        have HV := Lib.hid hv
        clear hv
        go_wp2
        have hv := HV.out
        exact bodyPost_ret (v := decodeVal none) (by simp [results, Try.results37, go_sem, d0, d1]; rfl) rfl ⟨by rw [hv], (HB.out.setCell (by simp) _).setCell (by simp) _⟩
      · have hpx : 2 ^ x ≤ 68719476736 := Nat.pow_le_pow_right (n := 2) (j := 36) (by omega) hx36
        have hqx : q * 2 ^ x ≤ 281474976710656 := by rw [HQ.out]; exact Nat.div_mul_le_self _ _
        have hb2 : (bs + (n0 + 0)) * 2 ^ x ≤ 281474976710656 := Nat.le_trans (Nat.mul_le_mul_right _ (by omega)) hqx
        have hb1 : bs * 2 ^ x ≤ 281474976710656 := Nat.le_trans (Nat.mul_le_mul_right _ (by omega)) hb2
        have hv : decodeOf B T E a = some (bs * 2 ^ x, (bs + (n0 + 0)) * 2 ^ x) := by
          unfold decodeOf; rw [if_neg (by omega), ← HX.out, ← HAT.out, ← HD.out, if_neg q1, ← HBS.out, ← HN0.out, if_neg hE0, ← HQ.out, if_neg (by omega)]
        obtain ⟨p1, hp1⟩ : ∃ p1 : Nat, p1 = bs * 2 ^ x := ⟨_, rfl⟩
        obtain ⟨p2, hp2⟩ : ∃ p2 : Nat, p2 = (bs + (n0 + 0)) * 2 ^ x := ⟨_, rfl⟩
        have f7 : IntKind.u64.wrap ((bs : Int) * 2 ^ x) = (p1 : Int) := by
          rw [show (bs : Int) * 2 ^ x = (p1 : Int) by rw [hp1]; simp, IntKind.wrap_u64]; omega
        have f8 : IntKind.u64.wrap (((bs : Int) + (n0 : Int)) * 2 ^ x) = (p2 : Int) := by
          rw [show ((bs : Int) + (n0 : Int)) * 2 ^ x = (p2 : Int) by rw [hp2]; simp, IntKind.wrap_u64]; omega
        rw [← hp1, ← hp2] at hv
        have q2' : decide ((q : Int) < (bs : Int) + (n0 : Int)) = false := by simp; omega
        have HV := Lib.hid hv
        clear hv hp1 hp2 hpx hqx hb1 hb2
        go_wp2
        have d0' : w3.drew.cell? ⟨w.heap.size + 1, 0, none⟩ = some (.int .u64 0) := d0
        have d1' : w3.drew.cell? ⟨w.heap.size + 1, 1, none⟩ = some (.int .u64 0) := d1
        have e0' : w3.drew.frozen? ⟨w.heap.size + 1, 0, none⟩ = false := e0
        have e1' : w3.drew.frozen? ⟨w.heap.size + 1, 1, none⟩ = false := e1
        go_region
        go_wp2
        have hv := HV.out
        exact bodyPost_ret (v := decodeVal (some (p1, p2))) (by simp [results, Try.results37, go_sem, d0, d1]; rfl) rfl ⟨by rw [hv], ((HB.out.setCell (by simp) _).setCell (by simp) _).drew⟩

theorem bounds_decode (B T E a : Nat) (w : World) (hB : B < 16384) (hT : T < 4096) (hE : E < 64) (ha : a < 18446744073709551616) :
    Calls Try.prog 37 #[.agg #[.int .u64 B, .int .u64 T, .int .u64 E], .int .u64 a] w (fun e w' => e = .returned (decodeVal (decodeOf B T E a)) ∧ Below w.heap.size w w') := by
  by_cases h : 37 < E ∨ 281474976710656 ≤ a
  · have hv : decodeOf B T E a = none := by unfold decodeOf; rw [if_pos h]
    rw [hv]; exact decode_bad B T E a w hB hT hE ha h
  · exact decode_good B T E a w hB hT (by omega) (by omega)

end Go.Proofs.Ythlgkicidbagbaa
