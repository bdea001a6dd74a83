/- The document's text of a capability: a contract. -/
import Derived.Test.YthlgkicidbagbaaDocLaw
import Derived.Deep.RegionHeld3
namespace Go.Proofs.Ythlgkicidbagbaa
set_option maxRecDepth 100000
open Go Go.RowKit Go.ChangeMaps Go.Lib
set_option linter.unusedVariables false

theorem doc_look_law (t : Bool) (m a : Nat) (hm : m < 18446744073709551616) (ha : a < 18446744073709551616) :
    PSpan.mintmarkref05_Look.f 3 t (m : Int) (a : Int) = some ((loOf m a : Int), (hiOf m a : Int), (permsOf m : Int), (kindOf' m : Int), okOf m a) := by
  unfold PSpan.mintmarkref05_Look.f PSpan.mintmarkref05_fields.f
  simp only [Option.bind_some]
  rw [show Int.tmod (m : Int) 16384 = ((m % 16384 : Nat) : Int) from rfl, show Int.tmod ((m : Int) / 16384) 4096 = ((m / 16384 % 4096 : Nat) : Int) from rfl, show Int.tmod ((m : Int) / 67108864) 64 = ((m / 67108864 % 64 : Nat) : Int) from rfl,
    show Int.tmod ((m : Int) / 4294967296) 512 = ((m / 4294967296 % 512 : Nat) : Int) from rfl, show Int.tmod ((m : Int) / 281474976710656) 4096 = ((m / 281474976710656 % 4096 : Nat) : Int) from rfl]
  rw [doc_decode_law _ _ _ _ (by omega) (by omega) (by omega) ha]
  rfl
theorem doc_look (t : Bool) (m a : Nat) (w : World) (hm : m < 18446744073709551616) (ha : a < 18446744073709551616) :
    Calls Try.prog 23 #[.agg #[.bool t, .int .u64 m, .int .u64 a]] w (fun e w' => e = .returned (.tuple #[.agg #[.int .u64 (loOf m a), .int .u64 (hiOf m a), .int .u64 (permsOf m), .int .u64 (kindOf' m)], .bool (okOf m a)]) ∧ Below w.heap.size w w') :=
  PSpan.mintmarkref05_Look.calls 3 t m a _ _ _ _ _ w (doc_look_law t m a hm ha)
theorem doc_span (t : Bool) (m a : Nat) (w : World) (hm : m < 18446744073709551616) (ha : a < 18446744073709551616) :
    Calls Try.prog 24 #[.agg #[.bool t, .int .u64 m, .int .u64 a]] w (fun e w' => e = .returned (.agg #[.int .u64 (loOf m a), .int .u64 (hiOf m a)]) ∧ Below w.heap.size w w') :=
  PSpan.mintmarkref06_Span.calls 3 t m a _ _ w (by unfold PSpan.mintmarkref06_Span.f; rw [doc_look_law t m a hm ha]; rfl)

theorem told_plain (m a : Nat) (w : World) (hm : m < 18446744073709551616) (ha : a < 18446744073709551616) :
    Calls Try.prog 13 #[.agg #[.bool false, .int .u64 m, .int .u64 a]] w (fun e w' => e = .returned (.string (tellS false m a)) ∧ Below w.heap.size w w') := by
  go_enter Try.func13, Try.ntmps13
  go_wp2_with fail
  refine (doc_digits_16 a ha _).mono ?_
  rintro e w1 ⟨rfl, hb1⟩
  have HB1 := Lib.hid hb1
  clear hb1
  go_wp2
  go_ret
  exact ⟨rfl, ((Below.refl _ _).alloc (Nat.le_refl _) _).trans (HB1.out.mono (by simp))⟩

theorem keepD {W W' : World} {p q r s : Addr} {x y z u : Value} (hb : Below W.heap.size W W') (h : W.cell? p = some x ∧ W.cell? q = some y ∧ W.cell? r = some z ∧ W.cell? s = some u) : W'.cell? p = some x ∧ W'.cell? q = some y ∧ W'.cell? r = some z ∧ W'.cell? s = some u := by
  have lt : ∀ {p : Addr} {v : Value}, W.cell? p = some v → p.block < W.heap.size := fun {p v} h => by
    rcases Nat.lt_or_ge p.block W.heap.size with k | k
    · exact k
    · unfold World.cell? at h; rw [Array.getElem?_eq_none k] at h; cases h
  exact ⟨(hb.cell (lt h.1)).trans h.1, (hb.cell (lt h.2.1)).trans h.2.1, (hb.cell (lt h.2.2.1)).trans h.2.2.1, (hb.cell (lt h.2.2.2)).trans h.2.2.2⟩

set_option maxHeartbeats 4000000 in
theorem told_tag (m a : Nat) (w : World) (hm : m < 18446744073709551616) (ha : a < 18446744073709551616) :
    Calls Try.prog 13 #[.agg #[.bool true, .int .u64 m, .int .u64 a]] w (fun e w' => e = .returned (.string (tellS true m a)) ∧ Below w.heap.size w w') := by
  go_enter Try.func13, Try.ntmps13
  go_wp2_with fail
  refine (doc_look true m a _ hm ha).mono ?_
  rintro e w1 ⟨rfl, hb1⟩
  have HB1 := Lib.hid hb1
  have kF : w1.heap[w.heap.size]? = some (.cells #[.bool true, .int .u64 m, .int .u64 a] 29 (0, 0)) := (hb1.block _ (by simp)).trans (blk_alloc_new w _)
  have kF0 : w1.cell? ⟨w.heap.size, 0, none⟩ = some (.bool true) := cell_of_blk kF 0
  have kF1 : w1.cell? ⟨w.heap.size, 1, none⟩ = some (.int .u64 m) := cell_of_blk kF 1
  have kF2 : w1.cell? ⟨w.heap.size, 2, none⟩ = some (.int .u64 a) := cell_of_blk kF 2
  have lt1 : w.heap.size + 1 ≤ w1.heap.size := by have q := hb1.size; simpa using q
  have q0 : ∀ o, (w1.alloc o).cell? ⟨w.heap.size, 0, none⟩ = some (.bool true) := fun o => by rw [World.cell?_alloc_lt _ _ _ (show w.heap.size < w1.heap.size by omega)]; exact kF0
  have q1 : ∀ o, (w1.alloc o).cell? ⟨w.heap.size, 1, none⟩ = some (.int .u64 m) := fun o => by rw [World.cell?_alloc_lt _ _ _ (show w.heap.size < w1.heap.size by omega)]; exact kF1
  have q2 : ∀ o, (w1.alloc o).cell? ⟨w.heap.size, 2, none⟩ = some (.int .u64 a) := fun o => by rw [World.cell?_alloc_lt _ _ _ (show w.heap.size < w1.heap.size by omega)]; exact kF2
  clear hb1 kF
  go_wp2_with fail
  refine (doc_span true m a _ hm ha).mono ?_
  rintro e w2 ⟨rfl, hb2⟩
  have HB2 := Lib.hid hb2
  have kV : w2.heap[w1.heap.size]? = some (.cells #[.int .u64 (loOf m a), .int .u64 (hiOf m a), .int .u64 (permsOf m), .int .u64 (kindOf' m)] 66 (0, 0)) := (hb2.block _ (by simp)).trans (blk_alloc_new w1 _)
  have kV2 : w2.cell? ⟨w1.heap.size, 2, none⟩ = some (.int .u64 (permsOf m)) := cell_of_blk kV 2
  have kV3 : w2.cell? ⟨w1.heap.size, 3, none⟩ = some (.int .u64 (kindOf' m)) := cell_of_blk kV 3
  have lt2 : w1.heap.size + 1 ≤ w2.heap.size := by have q := hb2.size; simpa using q
  clear hb2 kV kF0 kF1 kF2 q0 q1 q2
  go_wp2_with fail
  obtain ⟨hlo, hhi⟩ := ends_lt m a
  have hl1 : loOf m a < 18446744073709551616 := by omega
  have hl2 : hiOf m a < 18446744073709551616 := by omega
  have hl3 : permsOf m < 18446744073709551616 := by unfold permsOf; omega
  have hl4 : kindOf' m < 18446744073709551616 := by unfold kindOf'; omega
  have z1 := dig_size 16 (loOf m a)
  have z2 := dig_size 16 (hiOf m a)
  have z3 := dig_size 10 (kindOf' m)
  have z4 := perm_size (permsOf m)
  obtain ⟨t1, e1, k1, p1⟩ := add_fit (P := Try.prog) ⟨#[91]⟩ (digS 16 (loOf m a)) 1 65 (Nat.le_refl _) z1 (by omega)
  obtain ⟨t2, e2, k2, p2⟩ := add_fit (P := Try.prog) t1 ⟨#[45]⟩ 66 1 k1 (Nat.le_refl _) (by omega)
  obtain ⟨t3, e3, k3, p3⟩ := add_fit (P := Try.prog) t2 (digS 16 (hiOf m a)) 67 65 k2 z2 (by omega)
  obtain ⟨t4, e4, k4, p4⟩ := add_fit (P := Try.prog) t3 ⟨#[32]⟩ 132 1 k3 (Nat.le_refl _) (by omega)
  obtain ⟨t5, e5, k5, p5⟩ := add_fit (P := Try.prog) t4 (permS (permsOf m)) 133 10 k4 z4 (by omega)
  obtain ⟨t6, e6, k6, p6⟩ := add_fit (P := Try.prog) t5 ⟨#[32]⟩ 143 1 k5 (Nat.le_refl _) (by omega)
  obtain ⟨t7, e7, k7, p7⟩ := add_fit (P := Try.prog) t6 (digS 10 (kindOf' m)) 144 65 k6 z3 (by omega)
  obtain ⟨t8, e8, k8, p8⟩ := add_fit (P := Try.prog) t7 ⟨#[93]⟩ 209 1 k7 (Nat.le_refl _) (by omega)
  have ET : Hid (tellS true m a = t8) := Lib.hid (by rw [e8, e7, e6, e5, e4, e3, e2, e1]; rfl)
  clear e1 e2 e3 e4 e5 e6 e7 e8 k1 k2 k3 k4 k5 k6 k7 k8 z1 z2 z3 z4
  first | go_region_held3 (fun w' => w'.cell? ⟨w2.heap.size, 0, none⟩ = some (.int .u64 (loOf m a)) ∧ w'.cell? ⟨w2.heap.size, 1, none⟩ = some (.int .u64 (hiOf m a)) ∧ w'.cell? ⟨w1.heap.size, 2, none⟩ = some (.int .u64 (permsOf m)) ∧ w'.cell? ⟨w1.heap.size, 3, none⟩ = some (.int .u64 (kindOf' m))) (first | (with_reducible exact keepD ‹Below _ _ _› (by assumption)) | go_keep) (first | ((go_at_call 11; (with_reducible refine (doc_digits_16 (loOf m a) hl1 _).mono ?_); rintro e wc ⟨rfl, hbc⟩; have HC := Lib.hid hbc)) | ((go_at_call 11; (with_reducible refine (doc_digits_16 (hiOf m a) hl2 _).mono ?_); rintro e wd ⟨rfl, hbd⟩; have HD := Lib.hid hbd)) | ((go_at_call 11; (with_reducible refine (doc_digits_10 (kindOf' m) hl4 _).mono ?_); rintro e we ⟨rfl, hbe⟩; have HE := Lib.hid hbe)) | ((go_at_call 25; (with_reducible refine (doc_perm (permsOf m) hl3 _).mono ?_); rintro e wf ⟨rfl, hbf⟩; have HF := Lib.hid hbf))) | fail
  go_wp2
  go_ret
  have b1 : Below w.heap.size w w1 := ((Below.refl _ _).alloc (Nat.le_refl _) _).trans (HB1.out.mono (by simp))
  have t1 : Touch (fun _ => False) w1 w2 := ((Touch.refl (fun _ => False) w1).alloc _).trans (Touch.of_below HB2.out _) (fun _ _ h => h)
  have t2 := (((t1.alloc _).drew)).trans (Touch.of_below HC.out (fun _ => False)) (fun _ _ h => h)
  have t3 := t2.trans (Touch.of_below HD.out (fun _ => False)) (fun _ _ h => h)
  have t4 := t3.trans (Touch.of_below HF.out (fun _ => False)) (fun _ _ h => h)
  have t5 := t4.trans (Touch.of_below HE.out (fun _ => False)) (fun _ _ h => h)
  exact ⟨by rw [ET.out]; rfl, b1.trans ((t5.below (fun _ _ h => h)).mono b1.size)⟩
theorem told_any (t : Bool) (m a : Nat) (w : World) (hm : m < 18446744073709551616) (ha : a < 18446744073709551616) :
    Calls Try.prog 13 #[.agg #[.bool t, .int .u64 m, .int .u64 a]] w (fun e w' => e = .returned (.string (tellS t m a)) ∧ Below w.heap.size w w') := by
  cases t
  · exact told_plain m a w hm ha
  · exact told_tag m a w hm ha
end Go.Proofs.Ythlgkicidbagbaa
